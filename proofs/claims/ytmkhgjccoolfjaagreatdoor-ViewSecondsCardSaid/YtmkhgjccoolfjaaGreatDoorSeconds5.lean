/- Part 5. -/
import Derived.Test.YtmkhgjccoolfjaaGreatDoorSeconds4
import Derived.Test.YtmkhgjccoolfjaaGreatDoorSeconds3
import Derived.Test.YtmkhgjccoolfjaaGreatDoorSeconds2
import Derived.Deep.Slices
set_option linter.unusedSimpArgs false
set_option linter.unusedVariables false
set_option maxRecDepth 100000
set_option maxHeartbeats 8000000
section
namespace Go.Proofs.YtmkhgjccoolfjaaGreatDoor
open Go Go.RowKit Tryz
variable {S S' S0 K : Nat → Prop} {w w' w0 : World} {u v b x a vp vq vr y c u1 u2 : Value} {cs vs args cs1 cap : List Value} {T : TypeId} {s n i k m j g1 g2 : Nat} {P : Program} {g : Bool} {α : Type} {β : Nat → Nat} {f F : FuncId} {X : List PanicEntry} {q : Rat} {l : List Rat} {base : Bs} {E : Int} {Ψ : Value → World → Prop} {rs : List ResultVar} {o : Out} {Y Z : Prop}
theorem I1 : ∀ {m : Nat} {l : List Ch},(l.foldr (fun c p=>c.Ok m ∧ p) True) → (SV.agg l).Ok m:=by
 intro m l
 induction l with
 | nil=>intro _ c hc; cases hc
 | cons a r ih=>
  intro h c hc
  rcases List.mem_cons.1 hc with rfl | hc
  ·exact h.1
  exact ih h.2 c hc
def At (S : Nat → Prop) (w : World) (u : Value) (cs : List Value) : Prop:=
 ∃ b o arr T fr,u = .pointer (some ⟨b,o,none⟩) ∧ S b ∧ w.heap[b]? = some (.cells arr T fr) ∧ o + cs.length ≤ arr.size ∧ (arr.toList.drop o).take cs.length = cs
theorem At.keep (h : At S w u cs) (k : Keeps S w w') : At S w' u cs:=by
 obtain ⟨b,o,arr,T,fr,h1,h2,h3,h4,h5⟩:=h
 exact ⟨b,o,arr,T,fr,h1,h2,(k.block b (Array.getElem?_eq_some_iff.1 h3).1 h2).trans h3,h4,h5⟩
theorem At.mono (h : At S w u cs) (hs : ∀ k,k < w.heap.size → S k → S' k) : At S' w u cs:=by
 obtain ⟨b,o,arr,T,fr,h1,h2,h3,h4,h5⟩:=h
 exact ⟨b,o,arr,T,fr,h1,hs b (Array.getElem?_eq_some_iff.1 h3).1 h2,h3,h4,h5⟩
theorem At.of_row (h : Row S T s w v n cs) (hi : i < n) : At S w (.pointer (some (adr v (i * s)))) ((cs.drop (i * s)).take s):=by
 have h1 : (i + 1) * s ≤ n * s:=Nat.mul_le_mul_right _ hi
 rw [Nat.add_mul,Nat.one_mul] at h1
 have hl : ((cs.drop (i * s)).take s).length = s:=by rw [List.length_take,List.length_drop,h.1]; omega
 rcases h.2 with ⟨_,h2⟩ | ⟨b,off,cap,arr,fr,hv,h2,h3,h4,h5,h6,h7⟩
 ·omega
 subst hv
 have h8 : n * s ≤ cap * s:=Nat.mul_le_mul_right _ h2
 refine ⟨b,off + i * s,arr,T,fr,rfl,h4,h5,by rw [hl]; omega,?_⟩
 rw [hl,← h7,List.drop_take,List.drop_drop,List.take_take]
 congr 1
 omega
theorem At.cell (h : At S w u cs) : ∃ b o,u = .pointer (some ⟨b,o,none⟩) ∧ ∀ i,i < cs.length → w.cell? ⟨b,o + i,none⟩ = cs[i]?:=by
 obtain ⟨b,o,arr,T,fr,h1,h2,h3,h4,h5⟩:=h
 refine ⟨b,o,h1,fun i hi=>?_⟩
 simp only [World.cell?,h3]
 have h6 : cs[i]? = ((arr.toList.drop o).take cs.length)[i]?:=by rw [h5]
 rw [h6,List.getElem?_take,if_pos hi,List.getElem?_drop]
 simp
def P6 (g : Bool) (s : Nat) (x : Value) : Prop:=x.cells.toList.length = s ∧ bif g then x = .agg x.cells else x.cells = #[x]
theorem a56 (cs : List Value) : P6 true cs.length (.agg cs.toArray):=⟨by simp [Value.cells],by simp [Value.cells]⟩
theorem At.load {b : Nat} {z : Value} (hty : TyI P T s b z g) (h : At S w u x.cells.toList) (hx : P6 g s x) {ρ : Operand → Value} {ty : TypeId} {y : Operand} (hy : ρ y = u) : ai5 P ρ (.load T y) ty w x:=by
 obtain ⟨b',o,rfl,hc⟩:=h.cell
 obtain ⟨h1,h2⟩:=hx
 have hlv : (loadVar T ⟨b',o,none⟩).run P w = .ok x w:=by
  cases g with
  | true=>
   simp only [cond_true] at h2
   have h3:=as6 hty h1 hc
   rw [h3]
   congr 1
   rw [h2]
   simp [Value.cells]
  | false=>
   simp only [cond_false] at h2
   have h3:=hc 0 (by rw [h2]; simp)
   rw [h2] at h3
   exact ad4 hty (by simpa using h3)
 intro d pos aft g'
 simp [execOp,hy,Instr.loadAt,Instr.sureAddr,hlv]
abbrev atG (g : Bool) (s : Nat) (Δ : Value → Gh) (u : Value) : Gh:=
 ⟨fun S w=>∃ x,P6 g s x ∧ At S w u x.cells.toList ∧ (Δ x).p S w,fun ⟨x,h1,h2,h3⟩ k=>⟨x,h1,h2.keep k,(Δ x).keep h3 k⟩,fun ⟨x,h1,h2,h3⟩ k=>⟨x,h1,h2.mono k,(Δ x).mono h3 k⟩⟩
structure SeqV {α : Type} (g : Bool) (s : Nat) (F : Value → α → Gh) (S : Nat → Prop) (w : World) (v : Value) (l : List α) : Prop where
 row : ∃ (T : TypeId) (vs : List Value),vs.length = l.length ∧ (∀ x ∈ vs,P6 g s x) ∧ Row S T s w v l.length (vs.flatMap fun x=>x.cells.toList) ∧ ∀ (i : Nat) a x,l[i]? = some a → vs[i]? = some x → (F x a).p S w
section
variable {α : Type} {g : Bool} {s : Nat} {F : Value → α → Gh} {S S' : Nat → Prop} {w w' : World} {v : Value} {l : List α}
theorem SeqV.keep (h : SeqV g s F S w v l) (k : Keeps S w w') : SeqV g s F S w' v l:=let ⟨T,vs,h1,h2,h3,h4⟩:=h.row; ⟨T,vs,h1,h2,h3.keep k,fun i a x ha hx=>(F x a).keep (h4 i a x ha hx) k⟩
theorem SeqV.mono (h : SeqV g s F S w v l) (hs : ∀ k,k < w.heap.size → S k → S' k) : SeqV g s F S' w v l:=let ⟨T,vs,h1,h2,h3,h4⟩:=h.row; ⟨T,vs,h1,h2,h3.mono hs,fun i a x ha hx=>(F x a).mono (h4 i a x ha hx) hs⟩
theorem ap7 (h : ∀ x ∈ vs,P6 g s x) : ∀ {i : Nat} {x : Value},vs[i]? = some x → ((vs.flatMap fun x=>x.cells.toList).drop (i * s)).take s = x.cells.toList:=by
 induction vs with
 | nil=>intro i x hx; simp at hx
 | cons y r ih=>
  intro i x hx
  have hy:=(h y (List.mem_cons_self ..)).1
  rw [List.flatMap_cons]
  cases i with
  | zero=>
   simp only [List.getElem?_cons_zero,Option.some.injEq] at hx
   subst hx
   rw [Nat.zero_mul,List.drop_zero,List.take_left' hy]
  | succ i=>
   rw [Nat.add_mul,Nat.one_mul,Nat.add_comm,← List.drop_drop,List.drop_left' hy]
   exact ih (fun x hx=>h x (List.mem_cons_of_mem _ hx)) (by simpa using hx)
theorem SeqV.at (h : SeqV g s F S w v l) {a : α} (hi : l[i]? = some a) : (atG g s (fun x=>F x a) (.pointer (some (adr v (i * s))))).p S w:=by
 obtain ⟨T,vs,h1,h2,h3,h4⟩:=h.row
 have hil:=(List.getElem?_eq_some_iff.1 hi).1
 have hx : vs[i]? = some vs[i]:=List.getElem?_eq_getElem (by omega)
 have hr:=At.of_row h3 hil
 rw [ap7 h2 hx] at hr
 exact ⟨vs[i],h2 _ (List.getElem_mem _),hr,h4 i a _ hi hx⟩
theorem SeqV.sl (h : SeqV g s F S w v l) : (SV.one (.sl v l.length)).Ok 0:=by
 obtain ⟨T,vs,h1,h2,h3,h4⟩:=h.row
 exact h3.slice
theorem SeqV.len_le (h : SeqV g s F S w v l) : l.length ≤ maxLen:=by
 obtain ⟨T,vs,h1,h2,h3,h4⟩:=h.row
 exact h3.len_le
end
abbrev o8 (p : Prop) : Gh:=⟨fun _ _=>p,fun h _=>h,fun h _=>h⟩
theorem SeqV.el {F : Value → α → Gh} {l : List α} (h : SeqV g s F S w v l) {i : Int} {a : α} (hn : n = l.length) (hi : i = (k : Int)) (ha : l[k]? = some a) :
  0 ≤ i ∧ i < n ∧ (∃ S' T' cs,Row S' T' s w v n cs) ∧ (atG g s (fun x=>F x a) (.pointer (some (adr v (i.toNat * s))))).p S w:=by
 subst hi
 subst hn
 have hk:=(List.getElem?_eq_some_iff.1 ha).1
 obtain ⟨T,vs,h1,h2,h3,h4⟩:=h.row
 exact ⟨by omega,by omega,⟨S,T,_,h3⟩,h.at ha⟩
abbrev cv5 {α : Type} (g : Bool) (s : Nat) (F : Value → α → Gh) (v : Value) (l : List α) : Gh:=⟨fun S w=>SeqV g s F S w v l,fun h k=>h.keep k,fun h k=>h.mono k⟩
section
variable {c : Cx} {o : Out} {G : Gh}
theorem bl3 [Rd] (v : Value) (n : Nat) (i : Int) (e : TypeId) (sz : Nat) (Δ : Value → Gh) (hq : dy1 c.E o = some (v,n,i,e,sz)) (hc : c.Ok)
  (h : ∀ β S w,Mem c.bs o.st.hp β w → Keeps c.K c.w0 w → G.p S w → 0 ≤ i ∧ i < n ∧ (∃ S' T' cs,Row S' T' sz w v n cs) ∧ (Δ (.pointer (some (adr v (i.toNat * sz))))).p S w)
  (hn : ∀ u,Run c (ab1 o (.one (.val u)) o.st.hp) ((Δ u).and G)) : Run c o G:=by
 refine ⟨fun β ρ w hS hw hG=>?_⟩
 have h1:=h β (Sof c.S0 β o.st.hp) w hS.mem hw hG
 refine (dg0 (G:=(Δ (.pointer (some (adr v (i.toNat * sz))))).and G) v n i e sz hq hc h1.1 h1.2.1 (fun g S w d s t=>(h g S w d s t.2).2.2.1) ?_).run β ρ w hS hw ⟨h1.2.2.2,hG⟩
 exact hn _
theorem bg8 [Rd] (u : Value) (T : TypeId) (sz : Nat) (g : Bool) (pat : Value → SV) (Δ : Value → Gh) (hq : ldQ c.E o = some (u,T,sz,g)) (hc : c.Ok)
  (h : ∀ S w,Keeps c.K c.w0 w → G.p S w → (atG g sz Δ u).p S w) (hok : ∀ a S w,(Δ a).p S w → (pat a).Ok 0 ∧ (pat a).den (fun _=>0) = a)
  (hn : ∀ a,Run c (ab1 o (pat a) o.st.hp) ((Δ a).and G)) : Run c o G:=by
 unfold ldQ at hq
 split at hq <;> first | (cases hq; done) | skip
 rename_i d T' x hop
 split at hq <;> first | (cases hq; done) | skip
 rename_i p hx
 cases hte : c.E.get T' with
 | none=>rw [hte] at hq; cases hq
 | some te=>
  rw [hte] at hq
  simp only [Option.map_some,Option.some.injEq,Prod.mk.injEq] at hq
  obtain ⟨rfl,rfl,rfl,rfl⟩:=hq
  refine br9 pat Δ hop (fun β S w F ty hkn hM hup hS hw hG=>?_) hc hn
  obtain ⟨a,h1,h2,h3⟩:=h S w hw hG
  obtain ⟨h4,h5⟩:=hok a S w h3
  have g1 : ev F x = p:=(hkn x (by simp [Op.operands]) _ hx).1
  obtain ⟨z,hty,_⟩:=(hc.env.get hte).ty
  refine ⟨a,w,.refl,h4.le (Nat.zero_le _),h3,?_,rfl⟩
  rw [SV.den_congr (m:=0) (β':=fun _=>0) (fun i hi=>absurd hi (Nat.not_lt_zero i)) h4,h5]
  exact h2.load hty h1 g1
end
section
variable {c : Cx} {st : St} {G : Gh} {all : List Oper} {K : List HRec → Prop} {acc : List HRec} {ops : List Oper}
def am7 (all : List Oper) (st : St) (acc : List HRec) (ops : List Oper) (η : Nat → Value) : Bool:=G4 all (frH st acc η) (opH ops) && (opH ops).dst.isSome && !ops.isEmpty
theorem bj7 (p : Value → SV) (Δ : Value → Gh) (hok : ∀ η,am7 all st acc ops η = true)
  (h : ∀ β η S w F m ty,ah6 β m (frH st acc η) (ev F) (opH ops).op → Up S w → Mem c.bs st.hp β w → (∀ k,S k → c.S0 k) → Keeps c.K c.w0 w → G.p S w → depsH acc (opH ops).after.toList η S w → ∃ v,ai5 c.P (ev F) (opH ops).op ty w v ∧ v = (p v).den (fun _=>0) ∧ (p v).Ok 0 ∧ (Δ v).p S w)
  (k : Hd c st G all K (.spec ((opH ops).dst.getD 0) p Δ :: acc) (ops.drop 1)) : Hd c st G all K acc ops:=by
 cases ops with
 | nil=>have:=hok η0; simp [am7] at this
 | cons o r=>
  refine ⟨⟨.spec ((opH (o :: r)).dst.getD 0) p Δ,⟨?_,fun η=>?_⟩,k.run⟩⟩
  ·have:=hok η0
   simp only [am7,Bool.and_eq_true] at this
   cases hx : o.dst with
   | none=>have h2:=this.1.2; simp [opH,hx] at h2
   | some d=>simp [opH,hx]
  have h1:=hok η
  simp only [am7,Bool.and_eq_true] at h1
  refine ⟨h1.1.1,fun β S w F m hkn hup hM hS hw hG hd=>?_⟩
  obtain ⟨dst,op,ty,pos,aft,g⟩:=o
  obtain ⟨v,e1,e2,e3,e4⟩:=h β η S w F m ty hkn hup hM hS hw hG hd
  have e0:=e1 dst pos aft g
  unfold b77
  simp only [opH] at e0
  rw [e0]
  exact ⟨.refl,e2,e3,e4⟩
def dx6 (c : Cx) (st : St) (acc : List HRec) (ops : List Oper) (η : Nat → Value) : Option (Value × Nat × Int × TypeId × Nat):=
 match (opH ops).op with
 | .indexAddr t x ix=>match opd (frH st acc η) x,opd (frH st acc η) ix,B9 c.E t with
  | some (.one (.sl v n)),some (.one (.int _ i)),.slice e=>(c.E.get e).map fun te=>(v,n,i,e,te.size)
  | some (.one (.sl v n)),some (.one (.lit _ i)),.slice e=>(c.E.get e).map fun te=>(v,n,i,e,te.size)
  | _,_,_=>none
 | _=>none
theorem c42 (v : (Nat → Value) → Value) (n : Nat) (i : Int) (e : TypeId) (sz : Nat) (Δ : Value → Gh) (hok : ∀ η,am7 all st acc ops η = true) (hq : ∀ η,dx6 c st acc ops η = some (v η,n,i,e,sz)) (hc : c.Ok)
  (h : ∀ β η S w,Mem c.bs st.hp β w → Keeps c.K c.w0 w → G.p S w → depsH acc (opH ops).after.toList η S w → 0 ≤ i ∧ i < n ∧ (∃ S' T' cs,Row S' T' sz w (v η) n cs) ∧ (Δ (.pointer (some (adr (v η) (i.toNat * sz))))).p S w)
  (k : Hd c st G all K (.spec ((opH ops).dst.getD 0) (fun u=>.one (.val u)) Δ :: acc) (ops.drop 1)) : Hd c st G all K acc ops:=by
 refine bj7 (fun u=>.one (.val u)) Δ hok (fun β η S w F m ty hkn hup hM hS hw hG hd=>?_) k
 obtain ⟨h0,h1,⟨S',T',cs,hr⟩,h3⟩:=h β η S w hM hw hG hd
 have hq:=hq η
 unfold dx6 at hq
 split at hq <;> first | (cases hq; done) | skip
 rename_i t x ix hop
 refine ⟨.pointer (some (adr (v η) (i.toNat * sz))),?_,rfl,(rfl : Value.oneCell' _ = true),h3⟩
 rw [hop] at hkn ⊢
 have key : ∀ (ch : Ch) (kk : IntKind) (v' : Value) (n' : Nat) (i' : Int) (e' : TypeId),(∀ β,ch.den β = .int kk i') → opd (frH st acc η) x = some (.one (.sl v' n')) → opd (frH st acc η) ix = some (.one ch) → B9 c.E t = .slice e' →
   ((c.E.get e').map fun te=>(v',n',i',e',te.size)) = some (v η,n,i,e,sz) → ai5 c.P (ev F) (.indexAddr t x ix) ty w (.pointer (some (adr (v η) (i.toNat * sz)))):=by
  intro ch kk v' n' i' e' hch hx hi hk hq
  cases hte : c.E.get e' with
  | none=>rw [hte] at hq; cases hq
  | some te=>
   rw [hte] at hq
   simp only [Option.map_some,Option.some.injEq,Prod.mk.injEq] at hq
   obtain ⟨rfl,rfl,rfl,rfl,rfl⟩:=hq
   have g1:=(hkn x (by simp [Op.operands]) _ hx).1
   have g2:=(hkn ix (by simp [Op.operands]) _ hi).1
   have hkd:=D8 (t:=t) hc.env
   rw [hk] at hkd
   have hkd' : c.P.underlying t = some (.slice e'):=hkd
   obtain ⟨z,hty,_⟩:=(hc.env.get hte).ty
   intro d pos aft g
   rcases hr.2 with ⟨_,h2⟩ | ⟨gg,off,cap,arr,fr,hv2,_⟩
   ·omega
   have g1' : ev F x = .slice (some ⟨gg,off,none⟩) n' cap:=by rw [g1]; exact hv2
   have g2' : ev F ix = .int kk i':=by rw [g2]; exact hch β
   simp [execOp,g1',g2',Instr.indexAt,asIntOf,run_underlying hkd',h0,h1,hty.runSize w,adr,hv2,Z0]
 split at hq <;> first | (cases hq; done) | skip
 ·exact key _ _ _ _ _ _ (fun _=>rfl) (by assumption) (by assumption) (by assumption) hq
 exact key _ _ _ _ _ _ (fun _=>rfl) (by assumption) (by assumption) (by assumption) hq
theorem Q3 (v : (Nat → Value) → Value) (n : Nat) (i : Int) (e : TypeId) (sz : Nat) (Δ : Value → Gh) (h : ∀ β η S w,Mem c.bs st.hp β w → Keeps c.K c.w0 w → G.p S w → depsH acc (opH ops).after.toList η S w → 0 ≤ i ∧ i < n ∧ (∃ S' T' cs,Row S' T' sz w (v η) n cs) ∧ (Δ (.pointer (some (adr (v η) (i.toNat * sz))))).p S w) (k : Hd c st G all K (.spec ((opH ops).dst.getD 0) (fun u=>.one (.val u)) Δ :: acc) (ops.drop 1)) (hok : ∀ η,am7 all st acc ops η = true:=by intros; kernel_rfl) (hq : ∀ η,dx6 c st acc ops η = some (v η,n,i,e,sz):=by intros; kernel_rfl) (hc : c.Ok:=by exact ⟨c8,by assumption,l8⟩) : Hd c st G all K acc ops:=
 c42 v n i e sz Δ hok hq hc h k
def ldH (c : Cx) (st : St) (acc : List HRec) (ops : List Oper) (η : Nat → Value) : Option (Value × TypeId × Nat × Bool):=
 match (opH ops).op with
 | .load T x=>match opd (frH st acc η) x with
  | some (.one (.val p))=>(c.E.get T).map fun te=>(p,T,te.size,te.agg)
  | _=>none
 | _=>none
theorem dh0 (u : (Nat → Value) → Value) (T : TypeId) (sz : Nat) (g : Bool) (pat : Value → SV) (Δ : Value → Gh) (hok : ∀ η,am7 all st acc ops η = true) (hq : ∀ η,ldH c st acc ops η = some (u η,T,sz,g)) (hc : c.Ok)
  (hpat : ∀ a S w,(Δ a).p S w → (pat a).Ok 0 ∧ (pat a).den (fun _=>0) = a) (h : ∀ β η S w,Mem c.bs st.hp β w → Keeps c.K c.w0 w → G.p S w → depsH acc (opH ops).after.toList η S w → ∃ S' x,P6 g sz x ∧ At S' w (u η) x.cells.toList ∧ (Δ x).p S w)
  (k : Hd c st G all K (.spec ((opH ops).dst.getD 0) pat Δ :: acc) (ops.drop 1)) : Hd c st G all K acc ops:=by
 refine bj7 pat Δ hok (fun β η S w F m ty hkn hup hM hS hw hG hd=>?_) k
 obtain ⟨S',a,h1,h2,h3⟩:=h β η S w hM hw hG hd
 obtain ⟨h4,h5⟩:=hpat a S w h3
 have hq:=hq η
 unfold ldH at hq
 split at hq <;> first | (cases hq; done) | skip
 rename_i T' x hop
 split at hq <;> first | (cases hq; done) | skip
 rename_i p hx
 cases hte : c.E.get T' with
 | none=>rw [hte] at hq; cases hq
 | some te=>
  rw [hte] at hq
  simp only [Option.map_some,Option.some.injEq,Prod.mk.injEq] at hq
  obtain ⟨rfl,rfl,rfl,rfl⟩:=hq
  rw [hop] at hkn ⊢
  have g1 : ev F x = u η:=(hkn x (by simp [Op.operands]) _ hx).1
  obtain ⟨z,hty,_⟩:=(hc.env.get hte).ty
  exact ⟨a,h2.load hty h1 g1,h5.symm,h4,h3⟩
theorem ah0 (j : Nat) (T : TypeId) (n : Nat) (D : Value → α → Gh) (e : α) (hok : ∀ η,am7 all st acc ops η = true) (hq : ∀ η,ldH c st acc ops η = some (η j,T,n,true)) (hc : c.Ok)
  (hpat : ∀ a S w,(D a e).p S w → (SV.one (.ag n a)).Ok 0 ∧ (SV.one (.ag n a)).den (fun _=>0) = a) (h : ∀ β η S w,Mem c.bs st.hp β w → Keeps c.K c.w0 w → G.p S w → depsH acc (opH ops).after.toList η S w → ∃ S' x,P6 true n x ∧ At S' w (η j) x.cells.toList ∧ (D x e).p S w)
  (k : Hd c st G all K (.spec ((opH ops).dst.getD 0) (fun x=>.one (.ag n x)) (fun x=>D x e) :: acc) (ops.drop 1)) : Hd c st G all K acc ops:=dh0 (fun g=>g j) T n true (fun x=>.one (.ag n x)) (fun x=>D x e) hok hq hc hpat h k
theorem p7 (j : Nat) (T : TypeId) (n : Nat) (D : Value → α → Gh) (e : α) (h : ∀ β η S w,Mem c.bs st.hp β w → Keeps c.K c.w0 w → G.p S w → depsH acc (opH ops).after.toList η S w → ∃ S' x,P6 true n x ∧ At S' w (η j) x.cells.toList ∧ (D x e).p S w) (k : Hd c st G all K (.spec ((opH ops).dst.getD 0) (fun x=>.one (.ag n x)) (fun x=>D x e) :: acc) (ops.drop 1)) (hok : ∀ η,am7 all st acc ops η = true:=by intros; kernel_rfl) (hq : ∀ η,ldH c st acc ops η = some (η j,T,n,true):=by intros; kernel_rfl) (hc : c.Ok:=by exact ⟨c8,by assumption,l8⟩) (hpat : ∀ a S w,(D a e).p S w → (SV.one (.ag n a)).Ok 0 ∧ (SV.one (.ag n a)).den (fun _=>0) = a:=by exact fun _ _ _ h=>⟨h.ok,rfl⟩) : Hd c st G all K acc ops:=
 ah0 j T n D e hok hq hc hpat h k
end
section
variable {c : Cx} {o : Out} {G : Gh}
theorem cj7 (b : Nat) (T : TypeId) (s n : Nat) (v : Value) (cs : List Value) (hb : nth o.st.hp b = some (.row T s v n cs)) (hM : Mem c.bs o.st.hp β w) : ∃ S',Row S' T s w v n cs:=bg5 (ce2 hb hM)
end
section
variable {c : Cx} {o : Out} {G : Gh}
end
def n7 (u : Value) (o : Nat) : Value:=match u with | .pointer (some ⟨g,o0,none⟩)=>.pointer (some ⟨g,o0 + o,none⟩) | _=>.nilFunc
def cp5 (u : Value) (o m k : Nat) : Value:=match u with | .pointer (some ⟨g,o0,none⟩)=>.slice (some ⟨g,o0 + o,none⟩) m k | _=>.nilFunc
theorem a01 (u : Value) (o : Nat) : (n7 u o).oneCell' = true:=by unfold n7; split <;> rfl
theorem cx9 (u : Value) (o m k : Nat) : (cp5 u o m k).oneCell' = true:=by unfold cp5; split <;> rfl
def cl5 (b : Nat) (u : Value) : Nat ⊕ Value → Nat ⊕ Value
 | .inl b'=>bif Nat.beq b' b then .inr u else .inl b'
 | .inr x=>.inr x
def Ch.sub (b : Nat) (u : Value) : Ch → Ch
 | .ptr b' o=>bif Nat.beq b' b then .val (n7 u o) else .ptr b' o
 | .fn g cap=>.fn g (cap.map (cl5 b u))
 | .win b' o m k=>bif Nat.beq b' b then .val (cp5 u o m k) else .win b' o m k
 | c=>c
def SV.sub (b : Nat) (u : Value) : SV → SV
 | .one c=>.one (c.sub b u)
 | .agg l=>.agg (l.map (Ch.sub b u))
 | .tup l=>.tup (l.map fun p=>(p.1,p.2.map (Ch.sub b u)))
 | .und=>.und
def HE.sub (b : Nat) (u : Value) : HE → HE
 | .blk T l=>.blk T (l.map (Ch.sub b u))
 | e=>e
variable {hp : List HE}
def cn2 (b : Nat) (u : Value) : List (Nat × SV) → List (Nat × SV)
 | []=>[]
 | p :: r=>(p.1,p.2.sub b u) :: cn2 b u r
def ax5 (b : Nat) (u : Value) : List HE → List HE
 | []=>[]
 | e :: r=>e.sub b u :: ax5 b u r
def d76 (b : Nat) (u : Value) (o : Out) : Out:=⟨o.cur,o.k,⟨cn2 b u o.st.fr,ax5 b u (Z9 o.st.hp b .gone)⟩,[]⟩
theorem b78 [Rd] {b : Nat} : ∀ (l : List HE),ax5 b u l = l.map (HE.sub b u):=by
 intro l
 induction l with
 | nil=>rfl
 | cons e r ih=>simp [ax5,ih]
section
variable {b m : Nat} {u : Value} {β : Nat → Nat}
theorem Ch.sub_den [Rd] (hu : u = .pointer (some ⟨β b,0,none⟩)) (c : Ch) : (c.sub b u).den β = c.den β:=by
 subst hu
 cases c with
 | ptr b' o=>
  simp only [Ch.sub]
  cases hb : Nat.beq b' b with
  | true=>obtain rfl:=Nat.eq_of_beq_eq_true hb; simp [Ch.den,n7]
  | false=>rfl
 | win b' o m k=>
  simp only [Ch.sub]
  cases hb : Nat.beq b' b with
  | true=>obtain rfl:=Nat.eq_of_beq_eq_true hb; simp [Ch.den,cp5]
  | false=>rfl
 | fn g cap=>
  simp only [Ch.sub,Ch.den,List.map_map]
  congr 2
  refine List.map_congr_left fun x _=>?_
  cases x with
  | inr x=>rfl
  | inl b'=>
   simp only [Function.comp,cl5]
   cases hb : Nat.beq b' b with
   | true=>obtain rfl:=Nat.eq_of_beq_eq_true hb; rfl
   | false=>rfl
 | _=>rfl
theorem Ch.sub_cells [Rd] (hu : u = .pointer (some ⟨β b,0,none⟩)) (c : Ch) : (c.sub b u).cells β = c.cells β:=by
 have h:=Ch.sub_den hu c
 cases c with
 | ag n x=>rfl
 | ptr b' o=>
  simp only [Ch.sub] at h ⊢
  cases hb : Nat.beq b' b with
  | true=>rw [hb] at h; exact congrArg (fun x=>[x]) h
  | false=>rfl
 | win b' o m k=>
  simp only [Ch.sub] at h ⊢
  cases hb : Nat.beq b' b with
  | true=>rw [hb] at h; exact congrArg (fun x=>[x]) h
  | false=>rfl
 | fn g cap=>exact congrArg (fun x=>[x]) h
 | _=>rfl
theorem Ch.sub_ok [Rd] (hu : u.oneCell' = true) {c : Ch} (h : c.Ok m) : (c.sub b u).Ok m:=by
 cases c with
 | ptr b' o=>
  simp only [Ch.sub]
  cases hb : Nat.beq b' b with
  | true=>exact a01 u o
  | false=>exact h
 | win b' o m' k=>
  simp only [Ch.sub]
  cases hb : Nat.beq b' b with
  | true=>exact cx9 u o m' k
  | false=>exact h
 | fn g cap=>
  intro b2 hb2
  obtain ⟨x,hx,he⟩:=List.mem_map.1 hb2
  cases x with
  | inr x=>cases he
  | inl b'=>
   simp only [cl5] at he
   cases hb : Nat.beq b' b with
   | true=>rw [hb] at he; cases he
   | false=>
    rw [hb] at he
    simp only [cond_false,Sum.inl.injEq] at he
    subst he
    exact h _ hx
 | _=>exact h
theorem a04 [Rd] (hu : u = .pointer (some ⟨β b,0,none⟩)) (l : List Ch) : d6 β (l.map (Ch.sub b u)) = d6 β l:=by
 induction l with
 | nil=>rfl
 | cons c r ih=>
  simp only [d6,List.map_cons,List.flatMap_cons] at ih ⊢
  rw [Ch.sub_cells hu,ih]
theorem SV.sub_den [Rd] (hu : u = .pointer (some ⟨β b,0,none⟩)) (s : SV) : (s.sub b u).den β = s.den β:=by
 cases s with
 | one c=>exact Ch.sub_den hu c
 | agg l=>simp only [SV.sub,SV.den]; rw [a04 hu]
 | tup l=>
  simp only [SV.sub,SV.den,List.map_map]
  congr 2
  refine List.map_congr_left fun p _=>?_
  obtain ⟨g,l⟩:=p
  simp only [Function.comp]
  cases g with
  | true=>simp only [av6]; rw [a04 hu]
  | false=>
   cases l with
   | nil=>rfl
   | cons c r=>exact Ch.sub_den hu c
 | und=>rfl
theorem SV.sub_ok [Rd] (hu : u.oneCell' = true) {s : SV} (h : s.Ok m) : (s.sub b u).Ok m:=by
 cases s with
 | one c=>exact Ch.sub_ok (c:=c) hu h
 | agg l=>
  intro c hc
  obtain ⟨d,hd,rfl⟩:=List.mem_map.1 hc
  exact Ch.sub_ok hu (h d hd)
 | tup l=>
  intro p hp c hc
  obtain ⟨q,hq,rfl⟩:=List.mem_map.1 hp
  obtain ⟨d,hd,rfl⟩:=List.mem_map.1 hc
  exact Ch.sub_ok hu (h q hq d hd)
 | und=>trivial
theorem cg6 [Rd] : ∀ {fr : List (Nat × SV)} {d : Nat} {s : SV},J8 (cn2 b u fr) d = some s → ∃ s0,J8 fr d = some s0 ∧ s = s0.sub b u:=by
 intro fr
 induction fr with
 | nil=>intro d s h; cases h
 | cons p r ih=>
  obtain ⟨i,x⟩:=p
  intro d s h
  simp only [cn2] at h
  rw [H6] at h ⊢
  split
  ·rename_i e
   rw [if_pos e] at h
   simp only [Option.some.injEq] at h
   exact ⟨x,rfl,h.symm⟩
  rename_i e
  rw [if_neg e] at h
  exact ih h
end
theorem I4 : ∀ {l : List (Nat × SV)},(l.foldr (fun p q=>p.2.Ok m ∧ q) True) → ∀ p ∈ l,p.2.Ok m:=by
 intro l
 induction l with
 | nil=>intro _ p hp; cases hp
 | cons a r ih=>
  intro h p hp
  rcases List.mem_cons.1 hp with rfl | hp
  ·exact h.1
  exact ih h.2 p hp
theorem E6 : ∀ {l : List (Nat × HE)},(l.foldr (fun p q=>p.2.Ok m ∧ q) True) → ∀ p ∈ l,p.2.Ok m:=by
 intro l
 induction l with
 | nil=>intro _ p hp; cases hp
 | cons a r ih=>
  intro h p hp
  rcases List.mem_cons.1 hp with rfl | hp
  ·exact h.1
  exact ih h.2 p hp
theorem I2 {l : List Ch} (h : l.foldr (fun c p=>c.Ok m ∧ p) True) : (HE.blk T l).Ok m:=I1 h
theorem Ch.Ok.up {c : Ch} (h : c.Ok 0) : c.Ok m:=h.le (Nat.zero_le _)
def dd3 : Ch → Bool
 | .ptr _ _=>false
 | .win _ _ _ _=>false
 | .fn _ _=>false
 | _=>true
theorem c83 {c : Ch} (h : dd3 c = true) (k : c.Ok m) : c.Ok 0:=by
 cases c <;> first | exact k | cases h
abbrev ch7 (u : Value) (T : TypeId) (cs : List Value) : Gh:=
 ⟨fun S w=>∃ b,u = .pointer (some ⟨b,0,none⟩) ∧ S b ∧ Blk w b T cs,fun ⟨b,h1,h2,h3⟩ k=>⟨b,h1,h2,h3.keep k h2⟩,fun ⟨b,h1,h2,h3⟩ k=>⟨b,h1,k b h3.lt h2,h3⟩⟩
section
variable {c : Cx} {o : Out} {G : Gh}
theorem dk7 [Rd] (b : Nat) (T : TypeId) (l : List Ch) (hb : nth o.st.hp b = some (.blk T l)) (hl : l.all dd3 = true) (hc : c.Ok) (hn : ∀ u,Run c (d76 b u o) ((ch7 u T (d6 (fun _=>0) l)).and G)) : Run c o G:=by
 refine ⟨fun β ρ w hS hw hG=>?_⟩
 rw [O9] at hb
 have hbl:=(List.getElem?_eq_some_iff.1 hb).1
 obtain ⟨u,hu⟩ : ∃ u : Value,u = .pointer (some ⟨β b,0,none⟩):=⟨_,rfl⟩
 have hu1 : u.oneCell' = true:=by subst hu; rfl
 have hlen : (ax5 b u (Z9 o.st.hp b .gone)).length = o.st.hp.length:=by rw [b78,O7]; simp
 have hget : ∀ i x,(ax5 b u (Z9 o.st.hp b .gone))[i]? = some x → (i = b ∧ x = .gone) ∨ (i ≠ b ∧ ∃ y,o.st.hp[i]? = some y ∧ x = y.sub b u):=by
  intro i x hx
  rw [b78,O7,List.getElem?_map] at hx
  by_cases e : b = i
  ·subst e
   rw [List.getElem?_set_self hbl] at hx
   simp only [Option.map_some,Option.some.injEq] at hx
   exact .inl ⟨rfl,hx.symm⟩
  rw [List.getElem?_set_ne e] at hx
  cases hy : o.st.hp[i]? with
  | none=>rw [hy] at hx; cases hx
  | some y=>
   rw [hy] at hx
   simp only [Option.map_some,Option.some.injEq] at hx
   exact .inr ⟨fun e'=>e e'.symm,y,rfl,hx.symm⟩
 have hmine : ∀ i k,m7 β (ax5 b u (Z9 o.st.hp b .gone)) i k → b ≠ i ∧ m7 β o.st.hp i k:=by
  rintro i k ⟨x,hx,hk⟩
  rcases hget i x hx with ⟨_,rfl⟩ | ⟨h1,y,h2,rfl⟩
  ·cases hk
  refine ⟨fun e=>h1 e.symm,y,h2,?_⟩
  cases y <;> exact hk
 have hmb : m7 β o.st.hp b (β b):=⟨_,hb,rfl⟩
 obtain ⟨hB,hok⟩:=hS.mem.blk b T l hb
 have hok0 : ∀ ch ∈ l,ch.Ok 0:=fun ch hch=>c83 (List.all_eq_true.1 hl ch hch) (hok ch hch)
 have h1 : Sat c.bs (d76 b u o).st β ρ w:=by
  refine ⟨fun d s hs=>?_,⟨?_,?_,?_,?_,?_⟩,by show _ ≤ (ax5 b u (Z9 o.st.hp b .gone)).length; rw [hlen]; exact hS.agr.1,hS.agr.2⟩
  ·obtain ⟨s0,h2,rfl⟩:=cg6 hs
   obtain ⟨h3,h4⟩:=hS.fr d s0 h2
   refine ⟨h3.trans (SV.sub_den hu s0).symm,?_⟩
   show (s0.sub b u).Ok (ax5 b u (Z9 o.st.hp b .gone)).length
   rw [hlen]
   exact SV.sub_ok hu1 h4
  ·intro i T' l' hi
   rcases hget i _ hi with ⟨_,e⟩ | ⟨_,y,h2,e⟩
   ·cases e
   cases y with
   | blk T2 l2=>
    simp only [HE.sub,HE.blk.injEq] at e
    obtain ⟨rfl,rfl⟩:=e
    obtain ⟨h3,h4⟩:=hS.mem.blk i T' l2 h2
    refine ⟨by rw [a04 hu]; exact h3,fun ch hch=>?_⟩
    obtain ⟨d,hd,rfl⟩:=List.mem_map.1 hch
    show (d.sub b u).Ok (ax5 b u (Z9 o.st.hp b .gone)).length
    rw [hlen]
    exact Ch.sub_ok hu1 (h4 d hd)
   | row _ _ _ _ _=>cases e
   | gone=>cases e
   | abs _=>cases e
   | hid _ _=>cases e
  ·intro i T' s' v' n' cs' hi
   rcases hget i _ hi with ⟨_,e⟩ | ⟨_,y,h2,e⟩
   ·cases e
   cases y with
   | blk T2 l2=>cases e
   | row _ _ _ _ _=>
    simp only [HE.sub] at e
    cases e
    exact hS.mem.row i _ _ _ _ _ h2
   | gone=>cases e
   | abs _=>cases e
   | hid _ _=>cases e
  ·intro i A hi
   rcases hget i _ hi with ⟨_,e⟩ | ⟨_,y,h2,e⟩
   ·cases e
   cases y with
   | blk T2 l2=>cases e
   | row _ _ _ _ _=>cases e
   | gone=>cases e
   | abs _=>
    simp only [HE.sub] at e
    cases e
    exact hS.mem.abs i _ h2
   | hid _ _=>cases e
  ·intro i k hk; exact hS.mem.low i k (hmine i k hk).2
  intro i j k hi hj; exact hS.mem.apart i j k (hmine i k hi).2 (hmine j k hj).2
 refine (hn u).run β ρ w h1 hw ⟨?_,G.mono hG fun k _ hk=>⟨hk.1,fun i hi=>hk.2 i (hmine i k hi).2⟩⟩
 refine ⟨β b,hu,⟨hS.up0 hc b _ hmb,fun i hi=>?_⟩,?_⟩
 ·obtain ⟨e1,e2⟩:=hmine i _ hi
  exact e1 (hS.mem.apart b i _ hmb e2)
 rw [K6 (m:=0) (β:=fun _=>0) (β':=β) (fun i hi=>absurd hi (Nat.not_lt_zero i)) hok0]
 exact hB
theorem N9 [Rd] (b : Nat) (T : TypeId) (l : List Ch) (hn : ∀ u,Run c (d76 b u o) ((ch7 u T (d6 (fun _=>0) l)).and G)) (hb : nth o.st.hp b = some (.blk T l):=by kernel_rfl) (hl : l.all dd3 = true:=by kernel_rfl) (hc : c.Ok:=by exact ⟨c8,by assumption,l8⟩) : Run c o G:=
 dk7 b T l hb hl hc hn
def bq7 (o : Out) (s : SV) (b : Nat) (T : TypeId) (l : List Ch) : Out:=match G3 o s with | ⟨cur,k,⟨fr,hp⟩,_⟩=>⟨cur,k,⟨fr,Z9 hp b (.blk T l)⟩,[]⟩
theorem dm0 [Rd] (f : FuncId) [ci : CallI c.P f] (b : Nat) (T : TypeId) (l : List Ch) (hc : c.Ok) (hb : nth o.st.hp b = some (.blk T l)) (pat : α → SV) (l' : α → List Ch) (pre : α → Prop) (Δ : α → Gh) (hf : H9 f o = true)
  (h : ∀ β S w,Up S w → (∀ k,S k → c.S0 k) → Keeps c.K c.w0 w → G.p S w → Blk w (β b) T (d6 β l) → ¬ S (β b) → ∃ args,(y5 o).map (SV.den β) = args ∧ Gives c.P f args w fun v w'=>Wrt (β b) w w' ∧ ∃ a,v = (pat a).den β ∧ (pat a).Ok o.st.hp.length ∧ pre a ∧ Blk w' (β b) T (d6 β (l' a)) ∧ (∀ ch ∈ l' a,ch.Ok o.st.hp.length) ∧ (Δ a).p S w')
  (hn : ∀ a,pre a → Run c (bq7 o (pat a) b T (l' a)) ((Δ a).and G)) : Run c o G:=by
 refine ⟨fun β ρ w hS hw hG=>?_⟩
 rw [O9] at hb
 have hmb : m7 β o.st.hp b (β b):=⟨_,hb,rfl⟩
 obtain ⟨all,o1,r,d,hcur,hg,hd,hnx,hr⟩:=bo7 hf hS
 obtain ⟨args,ha,hgv⟩:=h β _ w (Sof.up (hc.up.to hw) hS.mem) (fun k g=>g.1) hw hG (hS.mem.blk b T l hb).1 (fun g=>g.2 b hmb)
 rw [hcur]
 show WqR c.P c.n all (kQ c.P c.n c.Q o.k) (o1 :: r) ρ w
 refine aw8 hg ?_
 unfold Stp
 rw [hr,ha]
 refine hgv.mono ?_
 rintro v w' ⟨hk,a,rfl,hok,hp,hB,hlok,hΔ⟩
 have h1:=hn a hp
 unfold bq7 at h1
 rw [hnx] at h1
 simp only [O7] at h1
 have h2 : Sat c.bs ⟨(d,pat a) :: o.st.fr,o.st.hp.set b (.blk T (l' a))⟩ β (upd ρ d ((pat a).den β)) w':=by
  have h3:=hS.wr hb hlok hk hB
  have h4:=h3.put (d:=d) (s:=pat a) rfl (by simpa using hok)
  exact h4
 have hSof : ∀ k,Sof c.S0 β o.st.hp k → Sof c.S0 β (o.st.hp.set b (.blk T (l' a))) k:=fun k hk=>⟨hk.1,fun i hi=>by rw [aq4 hb] at hi; exact hk.2 i hi⟩
 have hkS : Keeps (Sof c.S0 β o.st.hp) w w':=hk.mono fun k hk' e=>hk'.2 b (e ▸ hmb)
 have h5:=h1.run β _ w' h2 (hS.mem.grow hw hk b fun i hi=>(Classical.byContradiction hi : i = β b) ▸ hmb) ⟨(Δ a).mono hΔ fun k _ hk'=>hSof k hk',G.mono (G.keep hG hkS) fun k _ hk'=>hSof k hk'⟩
 rw [hd]
 exact h5
end
section
variable {c : Cx} {o : Out} {G : Gh}
def c35 (o : Out) : Option FuncId:=(al2 o.st o.cur).map fun x=>x.1
theorem di8 (h : c35 o = some f) : H9 f o = true:=by
 unfold c35 at h
 unfold H9
 cases hx : al2 o.st o.cur with
 | none=>rw [hx] at h; cases h
 | some x=>
  obtain ⟨g,l,d⟩:=x
  rw [hx] at h
  simp only [Option.map_some,Option.some.injEq] at h
  subst h
  simp
abbrev Pan (P : Program) (f : FuncId) (args : List Value) (w : World) (X : List PanicEntry) : Prop:=GivesE P f args w (fun _ _=>False) fun ch w'=>ch = X ∧ Ext w w'
theorem ap3 (h : Pan P f args w X) (hw : Ext w0 w) : GivesE P f args w (fun _ _=>False) fun ch w'=>∀ _ : Fr,ch = X ∧ Ext w0 w':=
 h.mono (fun _ _ h=>h) fun _ _ hp _=>⟨hp.1,hw.trans hp.2⟩
theorem s_X [Rd] [ci : CallI c.P f] (hc : c.Ok) (hv : (ex c o).vc = []) (hf : H9 f (ex c o) = true)
  (h : ∀ β S w,Up S w → (∀ k,S k → c.S0 k) → Keeps c.K c.w0 w → G.p S w → ∃ args,(y5 (ex c o)).map (SV.den β) = args ∧ GivesE c.P f args w (fun _ _=>False) fun ch w'=>∀ ρ,c.Q (.panic ch) ρ w') : Run c o G:=
 O6 hc hv (dn3 (α:=Unit) f hc (fun _=>.und) (fun _=>False) (fun _=>.nil) hf (fun g S w h1 h2 h3 h4=>let ⟨args,ha,hg⟩:=h g S w h1 h2 h3 h4; ⟨args,ha,hg.mono (fun _ _ hf=>hf.elim) fun _ _ hp=>hp⟩) fun _ hf=>hf.elim)
theorem af6 [Rd] [ci : CallI c.P f] (h : ∀ β S w,Up S w → (∀ k,S k → c.S0 k) → Keeps c.K c.w0 w → G.p S w → ∃ args,(y5 (ex c o)).map (SV.den β) = args ∧ GivesE c.P f args w (fun _ _=>False) fun ch w'=>∀ ρ,c.Q (.panic ch) ρ w') (hc : c.Ok:=by exact ⟨c8,by assumption,l8⟩) (hv : (ex c o).vc = []:=by kernel_rfl) (hf : H9 f (ex c o) = true:=by kernel_rfl) : Run c o G:=
 s_X hc hv hf h
def cq6 (st : St) : Cur → Option Value
 | .ops _ (o1 :: _)=>match o1.guard,o1.dst,o1.op with
  | none,none,.panic x=>match opd st.fr x with
   | some (.one (.val (.iface t v)))=>some (.iface t v)
   | _=>none
  | _,_,_=>none
 | _=>none
theorem dp2 [Rd] (x : Value) (hc : c.Ok) (hv : (ex c o).vc = []) (hp : cq6 (ex c o).st (ex c o).cur = some x)
  (h : ∀ S w,(∀ k,S k → c.S0 k) → Keeps c.K c.w0 w → G.p S w → ∀ ρ,c.Q (.panic [{ v:=x,recovered:=false }]) ρ w) : Run c o G:=by
 refine O6 hc hv ⟨fun β ρ w hS hw hG=>?_⟩
 generalize ex c o = o' at *
 unfold cq6 at hp
 split at hp <;> first | (cases hp; done) | skip
 rename_i all o1 r hcur
 split at hp <;> first | (cases hp; done) | skip
 rename_i y e1 e2 e3
 split at hp <;> first | (cases hp; done) | skip
 rename_i t v hx
 simp only [Option.some.injEq] at hp
 subst hp
 rw [hcur]
 obtain ⟨dst,op,ty,pos,aft,g⟩:=o1
 simp only at e1 e2 e3
 subst e1
 subst e2
 subst e3
 exact c19 ((ai2 fun t _=>hS.fr t) _ hx).1 (a61 (h _ w (fun k g=>g.1) hw hG ρ))
end
noncomputable def az7 (a b c : Value) : Value:=(SV.agg [.ag 3 a,.ag 3 b,.ag 3 c]).den fun _=>0
noncomputable def a42 (a b c : Value) : Value:=(SV.agg [.ag 4 a,.ag 4 b,.ag 4 c]).den fun _=>0
def TripV (S : Nat → Prop) (w : World) (v : Value) (t : T3) : Prop:=∃ a b c,v = az7 a b c ∧ RatV S w a t.x ∧ RatV S w b t.y ∧ RatV S w c t.z
def QTripV (S : Nat → Prop) (w : World) (v : Value) (t : T3) : Prop:=∃ a b c,v = a42 a b c ∧ QV S w a t.x ∧ QV S w b t.y ∧ QV S w c t.z
section
variable {S S' : Nat → Prop} {w w' : World} {v : Value} {t : T3}
theorem TripV.keep (h : TripV S w v t) (k : Keeps S w w') : TripV S w' v t:=let ⟨a,b,c,h1,h2,h3,h4⟩:=h; ⟨a,b,c,h1,h2.keep k,h3.keep k,h4.keep k⟩
theorem TripV.mono (h : TripV S w v t) (hs : ∀ k,k < w.heap.size → S k → S' k) : TripV S' w v t:=let ⟨a,b,c,h1,h2,h3,h4⟩:=h; ⟨a,b,c,h1,h2.mono hs,h3.mono hs,h4.mono hs⟩
theorem QTripV.keep (h : QTripV S w v t) (k : Keeps S w w') : QTripV S w' v t:=let ⟨a,b,c,h1,h2,h3,h4⟩:=h; ⟨a,b,c,h1,h2.keep k,h3.keep k,h4.keep k⟩
theorem QTripV.mono (h : QTripV S w v t) (hs : ∀ k,k < w.heap.size → S k → S' k) : QTripV S' w v t:=let ⟨a,b,c,h1,h2,h3,h4⟩:=h; ⟨a,b,c,h1,h2.mono hs,h3.mono hs,h4.mono hs⟩
theorem as8 {l : List Ch} (h : ∀ c ∈ l,c.Ok 0) (hn : aa3 l = n) : (SV.one (.ag n ((SV.agg l).den fun _=>0))).Ok 0:=
 ⟨d6 (fun _=>0) l,rfl,by rw [U0 h,hn],ag6 h⟩
theorem TripV.ok (h : TripV S w v t) : (SV.one (.ag 9 v)).Ok 0:=by
 obtain ⟨a,b,c,rfl,h2,h3,h4⟩:=h
 exact as8 (l:=[.ag 3 a,.ag 3 b,.ag 3 c]) (I1 (m:=0) ⟨h2.ok,h3.ok,h4.ok,trivial⟩) rfl
theorem QTripV.ok (h : QTripV S w v t) : (SV.one (.ag 12 v)).Ok 0:=by
 obtain ⟨a,b,c,rfl,h2,h3,h4⟩:=h
 exact as8 (l:=[.ag 4 a,.ag 4 b,.ag 4 c]) (I1 (m:=0) ⟨h2.ok,h3.ok,h4.ok,trivial⟩) rfl
end
abbrev j5 (v : Value) (t : T3) : Gh:=⟨fun S w=>TripV S w v t,fun h k=>h.keep k,fun h k=>h.mono k⟩
abbrev l7 (v : Value) (t : T3) : Gh:=⟨fun S w=>QTripV S w v t,fun h k=>h.keep k,fun h k=>h.mono k⟩
theorem bj3 (hf : aa8 q) (h : Gives P f args w fun v w'=>Ext w w' ∧ bn6 S w' v q) : Gives P f args w fun v w'=>Ext w w' ∧ (ax3 v q 0).p S w':=fb0 (.inl ⟨hf,rfl,rfl⟩) h
theorem aq1 {r : Value} (hS : Up S w) (h : RatV S w r q) : Gives prog 70 [r,.int .i64 0] w fun v' w'=>Ext w w' ∧ RatV S w' v' q:=by
 refine n4 (E:=env) (S0:=S) (G:=(n5 r q)) (l:=[.one (.ag 3 r),.one (.lit .i64 0)]) func70 rfl rfl rfl ⟨h.ok,trivial,trivial⟩ rfl h ?_
 exact j9 r rfl (fun S w g d s=>⟨d,s.mono fun k _ hk=>g k hk⟩)
theorem A9 {va vb : Value} {a b : Rat} (hS : Up S w) (ha : RatV S w va a) (hb : RatV S w vb b) (hla : rl a m) (hlb : rl b n) (hmn : m + n ≤ 3344) :
  Gives prog 67 [va,vb] w fun v' w'=>Ext w w' ∧ RatV S w' v' (a * b):=by
 have hf : aa8 (a * b):=af1 (r5 hla hlb) hmn
 refine n4 (E:=env) (S0:=S) (G:=((n5 va a).and (n5 vb b))) (l:=[.one (.ag 3 va),.one (.ag 3 vb)]) func67 rfl rfl rfl ⟨ha.ok,hb.ok,trivial⟩ rfl ⟨ha,hb⟩ ?_
 refine ah1 (fun x0=>pr (.ag 3 (N6 x0)) (.lit .i64 0)) (fun x0=>ax3 x0 (a * b) 0) (fun _ _ _ h=>aj7 h) (fun _ S w g _ _ d=>(kx (bj3 hf (dy4 g d.1 d.2 (f5 hla) (f5 hlb))))) ?_
 intro r
 refine o6 3 n5 (a * b) (fun _ S w g _ _ d=>(kx (aq1 g d.1.2))) ?_
 intro x
 exact j9 x rfl (fun S w g d s=>⟨d,s.1.mono fun k _ hk=>g k hk⟩)
theorem RatV.okc (h : RatV S w v q) : (Ch.ag 3 v).Ok m:=h.ok
def ax2 (l : List Rat) : Rat:=l.foldl (fun a x=>a + x) 0
theorem ba9 (hj : j < l.length) : ax2 (l.take (j + 1)) = ax2 (l.take j) + l.getD j 0:=by
 unfold ax2
 rw [List.take_add_one,List.foldl_append,List.getElem?_eq_getElem hj]
 simp [List.getD_eq_getElem?_getD,List.getElem?_eq_getElem hj]
theorem co2 (h : ∀ x ∈ l,rl x m) : ∀ j,j ≤ l.length → rl (ax2 (l.take j)) (j * (m + 1) + 1):=by
 intro j
 induction j with
 | zero=>
  intro _
  show rl (0 : Rat) _
  exact ⟨Nat.le_trans (G9 (k:=0) (show 0 < 1000000000 ^ 0 by decide)) (Nat.zero_le _),Nat.le_trans (G9 (k:=1) (show 1 < 1000000000 ^ 1 by decide)) (by omega)⟩
 | succ j ih=>
  intro hj
  rw [ba9 (by omega)]
  have h1 : l.getD j 0 ∈ l:=by
   rw [List.getD_eq_getElem?_getD,List.getElem?_eq_getElem (by omega)]
   exact List.getElem_mem _
  exact E7 (ae3 (ih (by omega)) (h _ h1)) (by rw [Nat.add_mul]; omega)
theorem RatV.lies (h : RatV S w v q) : P6 true 3 v:=by
 obtain ⟨m,b,rfl,_⟩:=h
 exact a56 [_,_,_]
abbrev ai6 (x : Value) (q : Rat) : Gh:=n5 x q
abbrev N5 (v : Value) (l : List Rat) : Gh:=cv5 true 3 ai6 v l
theorem d89 (hS : Up S w) (h : SeqV true 3 ai6 S w v l) (hl : ∀ x ∈ l,rl x m) (hn : l.length * (m + 1) + 1 ≤ 3344) :
  Gives prog 73 [v] w fun v' w'=>Ext w w' ∧ RatV S w' v' (ax2 l):=by
 have hmx:=h.len_le
 unfold maxLen at hmx
 refine n4 (E:=env) (S0:=S) (G:=(N5 v l)) (l:=[.one (.sl v l.length)]) func73 rfl rfl rfl ⟨h.sl,trivial⟩ rfl h ?_
 refine ac0 (ι:=Nat × Value) [(5,5),(8,18)] (fun i=>[(8,.one (.int .i64 (i.1 : Int)))]) (fun i=>[(1,.blk 53 [.ag 3 i.2])]) (fun i g=>(n5 i.2 (ax2 (l.take i.1))).and g) (fun i=>i.1 ≤ l.length) (fun i=>l.length - i.1) (0,.agg #[.bool false,.slice none 0 0,.slice none 0 0]) ⟨c8,hS,l8⟩ (by kernel_rfl) (by kernel_rfl) (fun _=>(by kernel_rfl)) (fun _=>(by kernel_rfl)) (by kernel_rfl) (Nat.zero_le _) (fun S w _ _=>⟨I4 ⟨trivial,trivial⟩,E6 ⟨I2 ⟨(F2 (S:=S) (w:=w)).okc,trivial⟩,trivial⟩⟩) (fun S w _ g=>⟨F2,g⟩) (fun hso i hi=>?_)
 refine z7 (p:=(i.1 : Int) < (l.length : Int)) (fun hlt=>?_) (fun hlt=>?_)
 ·have hlt' : i.1 < l.length:=by omega
  have hx0 : l[i.1]? = some (l.getD i.1 0):=by rw [List.getD_eq_getElem?_getD,List.getElem?_eq_getElem hlt']; rfl
  have hb:=co2 hl (i.1 + 1) hlt'
  have hle : (i.1 + 1) * (m + 1) ≤ l.length * (m + 1):=Nat.mul_le_mul_right _ hlt'
  refine o7 (bl3 v l.length (i.1 : Int) 53 3 (fun u0=>atG true 3 (fun x0=>n5 x0 (l.getD i.1 0)) u0) (by kernel_rfl) ⟨c8,hS,l8⟩ (fun _ S w _ _ g=>g.2.el rfl rfl hx0) ?_)
  intro u_1
  refine o7 (bg8 u_1 53 3 true (fun x0=>.one (.ag 3 x0)) (fun x0=>n5 x0 (l.getD i.1 0)) (by kernel_rfl) ⟨c8,hS,l8⟩ (fun S w _ g=>g.1) (fun _ _ _ h=>⟨h.ok,rfl⟩) ?_)
  intro x
  rw [ba9 hlt'] at hb
  have hle2 : i.1 * (m + 1) ≤ l.length * (m + 1):=Nat.mul_le_mul_right _ (by omega)
  have hle3 : m + 1 ≤ l.length * (m + 1):=Nat.le_mul_of_pos_left _ (by omega)
  refine ah1 (fun x0=>pr (.ag 3 (N6 x0)) (.lit .i64 0)) (fun x0=>ax3 x0 (ax2 (l.take i.1) + l.getD i.1 0) 0) (fun _ _ _ h=>aj7 h) (fun _ S w g _ _ d=>(kx (bj3 (af1 hb (by omega)) (dz7 g d.2.2.1 d.1 (f5 (co2 hl i.1 (by omega))) (f5 (hl _ (List.mem_of_getElem? hx0))))))) ?_
  intro r
  refine o6 3 n5 (ax2 (l.take i.1) + l.getD i.1 0) (fun _ S w g _ _ d=>(kx (aq1 g d.1.2))) ?_
  intro r2
  refine P9 (ps:=[InR .i64 ((i.1 : Int) + 1)]) (by simp only [I3,InR,and_true]; omega) ?_
  exact ac7 (i.1 + 1,r2) ⟨c8,hS,l8⟩ hso (by kernel_rfl) (by kernel_rfl) (fun _=>(by kernel_rfl)) (fun _=>(by kernel_rfl)) (by kernel_rfl) (by omega) (by simp only; omega) (fun S w _ g=>⟨I4 ⟨trivial,trivial⟩,E6 ⟨I2 ⟨g.1.okc,trivial⟩,trivial⟩⟩) (fun S w _ g=>⟨(by show RatV S w r2 _; rw [ba9 hlt']; exact g.1),g.2.2.2.2.2⟩)
 refine al7 ?_
 exact j9 i.2 rfl (fun S w g d s=>have ho:=s.1; ⟨d,by have e : l.take i.1 = l:=List.take_of_length_le (by omega); rw [e] at ho; exact ho.mono fun k _ hk=>g k hk⟩)
theorem ae2 (e : ax2 l = q) (hS : Up S w) (h : SeqV true 3 ai6 S w v l) (hl : ∀ x ∈ l,rl x m) (hn : l.length * (m + 1) + 1 ≤ 3344) :
  Gives prog 73 [v] w fun v' w'=>Ext w w' ∧ RatV S w' v' q:=e ▸ d89 hS h hl hn
theorem ct3 (a b : Rat) : ax2 [a,b] = a + b:=by unfold ax2; simp only [List.foldl]; grind
theorem ar9 (a b : Rat) : ax2 [a,-b] = a - b:=by unfold ax2; simp only [List.foldl]; grind
theorem fc6 (a b c : Rat) : ax2 [a,b,c] = a + b + c:=by unfold ax2; simp only [List.foldl]; grind
section
variable {S : Nat → Prop} {w : World} {v a b c : Value} {x y z : Rat}
theorem bn7 (h0 : RatV S w a x) (h1 : RatV S w b y) (hrow : Row S 53 3 w v 2 (a.cells.toList ++ (b.cells.toList ++ []))) : SeqV true 3 ai6 S w v [x,y]:=
 ⟨_,[a,b],rfl,fun u hu=>by rcases List.mem_cons.1 hu with rfl | hu; exact h0.lies; rw [List.mem_singleton.1 hu]; exact h1.lies,hrow,fun i p u hp hu=>by
  match i with
  | 0=>simp at hp hu; subst hp; subst hu; exact h0
  | 1=>simp at hp hu; subst hp; subst hu; exact h1
  | i + 2=>simp at hp⟩
theorem fe7 (h0 : RatV S w a x) (h1 : RatV S w b y) (h2 : RatV S w c z) (hrow : Row S 53 3 w v 3 (a.cells.toList ++ (b.cells.toList ++ (c.cells.toList ++ [])))) : SeqV true 3 ai6 S w v [x,y,z]:=
 ⟨_,[a,b,c],rfl,fun u hu=>by
  rcases List.mem_cons.1 hu with rfl | hu
  ·exact h0.lies
  ·rcases List.mem_cons.1 hu with rfl | hu
   ·exact h1.lies
   rw [List.mem_singleton.1 hu]; exact h2.lies,hrow,fun i p u hp hu=>by
  match i with
  | 0=>simp at hp hu; subst hp; subst hu; exact h0
  | 1=>simp at hp hu; subst hp; subst hu; exact h1
  | 2=>simp at hp hu; subst hp; subst hu; exact h2
  | i + 3=>simp at hp⟩
theorem be6 {p : Rat → Prop} (h0 : p x) (h1 : p y) : ∀ u ∈ [x,y],p u:=fun u hu=>by
 rcases List.mem_cons.1 hu with rfl | hu
 ·exact h0
 rw [List.mem_singleton.1 hu]; exact h1
theorem ff1 {p : Rat → Prop} (h0 : p x) (h1 : p y) (h2 : p z) : ∀ u ∈ [x,y,z],p u:=fun u hu=>by
 rcases List.mem_cons.1 hu with rfl | hu
 ·exact h0
 exact be6 h1 h2 u hu
end
theorem av9 : (q.num.sign = 0) = (q = 0):=by
 refine propext ⟨fun h=>?_,fun h=>by subst h; rfl⟩
 exact Rat.num_eq_zero.1 (Int.sign_eq_zero_iff_zero.1 h)
theorem D9 (hS : Up S w) (h : RatV S w v q) : Gives prog 58 [v] w fun v' w'=>v' = .bool (tst (q = 0)) ∧ Ext w w':=by
 refine n4 (E:=env) (S0:=S) (G:=(n5 v q)) (l:=[.one (.ag 3 v)]) func58 rfl rfl rfl ⟨h.ok,trivial⟩ rfl h ?_
 refine n9 (.one (.int .i64 q.num.sign)) rfl (fun _ S w _ _ _ g=>(kx (a25 g))) ?_
 exact j9 (.bool (tst (q.num.sign = 0))) rfl (fun S w _ g _=>⟨by rw [av9],g⟩)
theorem al5 {p q : T3} (hS : Up S w) (hp : TripV S w vp p) (hq : TripV S w vq q) (hm : tl p m) (hn : tl q n) (hmn : 3 * (m + n + 1) + 1 ≤ 3344) :
  Gives prog 60 [vp,vq] w fun v' w'=>Ext w w' ∧ RatV S w' v' (p.dot q):=by
 obtain ⟨a1,b1,c1,rfl,ha1,hb1,hc1⟩:=hp
 obtain ⟨a2,b2,c2,rfl,ha2,hb2,hc2⟩:=hq
 refine n4 (E:=env) (S0:=S) (G:=((n5 a1 p.x).and ((n5 b1 p.y).and ((n5 c1 p.z).and ((n5 a2 q.x).and ((n5 b2 q.y).and (n5 c2 q.z))))))) (l:=[.agg [.ag 3 a1,.ag 3 b1,.ag 3 c1],.agg [.ag 3 a2,.ag 3 b2,.ag 3 c2]]) func60 rfl rfl rfl ⟨I1 ⟨ha1.okc,hb1.okc,hc1.okc,trivial⟩,I1 ⟨ha2.okc,hb2.okc,hc2.okc,trivial⟩,trivial⟩ rfl ⟨ha1,hb1,hc1,ha2,hb2,hc2⟩ ?_
 refine a8 17 ?_
 refine a6 4 ?_
 refine f4 3 n5 (p.x * q.x) (fun _ _ S w g _ _ d _=>(kx (A9 g d.1 d.2.2.2.1 hm.1 hn.1 (by omega)))) ?_
 refine a6 4 ?_
 refine f4 3 n5 (p.y * q.y) (fun _ _ S w g _ _ d _=>(kx (A9 g d.2.1 d.2.2.2.2.1 hm.2.1 hn.2.1 (by omega)))) ?_
 refine a6 4 ?_
 refine f4 3 n5 (p.z * q.z) (fun _ _ S w g _ _ d _=>(kx (A9 g d.2.2.1 d.2.2.2.2.2 hm.2.2 hn.2.2 (by omega)))) ?_
 refine ab7 53 3 3 (fun x0=>N5 x0 [p.x * q.x,p.y * q.y,p.z * q.z]) ⟨c8,hS,l8⟩ (fun _=>(by kernel_rfl)) (fun _ g S w x0 w' _ _ _ _ d s hrow=>fe7 ((j8 d 4 : (n5 (g 4) (p.x * q.x)).p S w).to s) ((j8 d 9 : (n5 (g 9) (p.y * q.y)).p S w).to s) ((j8 d 14 : (n5 (g 14) (p.z * q.z)).p S w).to s) (kc hrow (by kernel_rfl))) ?_
 refine f4 3 n5 (p.dot q) (fun _ g S w d _ _ _ s=>(kx (ae2 (m:=m + n) (fc6 _ _ _) d (j8 s 15 : (N5 (g 15) [p.x * q.x,p.y * q.y,p.z * q.z]).p S w) (ff1 (r5 hm.1 hn.1) (r5 hm.2.1 hn.2.1) (r5 hm.2.2 hn.2.2)) (by simp only [List.length]; omega)))) ?_
 refine b6 1 (fun g d=>(n5 (d 16) (p.dot q)).and g) (fun g _=>(by kernel_rfl)) ?_
 intro η_1
 exact j9 (η_1 16) rfl (fun S w g d s=>⟨d,s.1.mono fun k _ hk=>g k hk⟩)
theorem S6 {p q : T3} (hS : Up S w) (hp : TripV S w vp p) (hq : TripV S w vq q) (hm : tl p m) (hn : tl q n) (hmn : 2 * (m + n + 1) + 1 ≤ 3344) :
  Gives prog 63 [vp,vq] w fun v' w'=>Ext w w' ∧ TripV S w' v' (p.cross q):=by
 obtain ⟨a1,b1,c1,rfl,ha1,hb1,hc1⟩:=hp
 obtain ⟨a2,b2,c2,rfl,ha2,hb2,hc2⟩:=hq
 refine n4 (E:=env) (S0:=S) (G:=((n5 a1 p.x).and ((n5 b1 p.y).and ((n5 c1 p.z).and ((n5 a2 q.x).and ((n5 b2 q.y).and (n5 c2 q.z))))))) (l:=[.agg [.ag 3 a1,.ag 3 b1,.ag 3 c1],.agg [.ag 3 a2,.ag 3 b2,.ag 3 c2]]) func63 rfl rfl rfl ⟨I1 ⟨ha1.okc,hb1.okc,hc1.okc,trivial⟩,I1 ⟨ha2.okc,hb2.okc,hc2.okc,trivial⟩,trivial⟩ rfl ⟨ha1,hb1,hc1,ha2,hb2,hc2⟩ ?_
 refine i1 ?_
 refine a8 18 ?_
 refine a6 7 ?_
 refine f4 3 n5 (p.y * q.z) (fun _ _ S w g _ _ d _=>(kx (A9 g d.2.1 d.2.2.2.2.2 hm.2.1 hn.2.2 (by omega)))) ?_
 refine a6 6 ?_
 refine f4 3 n5 (p.z * q.y) (fun _ _ S w g _ _ d _=>(kx (A9 g d.2.2.1 d.2.2.2.2.1 hm.2.2 hn.2.1 (by omega)))) ?_
 refine f4 3 n5 (-(p.z * q.y)) (fun _ g S w _ _ _ _ d=>(kx (ba5 (j8 d 14 : (n5 (g 14) (p.z * q.y)).p S w)))) ?_
 refine ab7 53 3 2 (fun x0=>N5 x0 [p.y * q.z,-(p.z * q.y)]) ⟨c8,hS,l8⟩ (fun _=>(by kernel_rfl)) (fun _ g S w x0 w' _ _ _ _ d s hrow=>bn7 ((j8 d 7 : (n5 (g 7) (p.y * q.z)).p S w).to s) ((j8 d 15 : (n5 (g 15) (-(p.z * q.y))).p S w).to s) (kc hrow (by kernel_rfl))) ?_
 refine f4 3 n5 (p.y * q.z - p.z * q.y) (fun _ g S w d _ _ _ s=>(kx (ae2 (m:=m + n) (ar9 _ _) d (j8 s 16 : (N5 (g 16) [p.y * q.z,-(p.z * q.y)]).p S w) (be6 (r5 hm.2.1 hn.2.2) (ab5 (r5 hm.2.2 hn.2.1))) (by simp only [List.length]; omega)))) ?_
 refine b6 1 (fun g d=>(n5 (d 17) (p.y * q.z - p.z * q.y)).and g) (fun g _=>(by kernel_rfl)) ?_
 intro η_1
 refine a8 18 ?_
 refine a6 7 ?_
 refine f4 3 n5 (p.z * q.x) (fun _ _ S w g _ _ d _=>(kx (A9 g d.2.2.2.1 d.2.2.2.2.1 hm.2.2 hn.1 (by omega)))) ?_
 refine a6 6 ?_
 refine f4 3 n5 (p.x * q.z) (fun _ _ S w g _ _ d _=>(kx (A9 g d.2.1 d.2.2.2.2.2.2 hm.1 hn.2.2 (by omega)))) ?_
 refine f4 3 n5 (-(p.x * q.z)) (fun _ g S w _ _ _ _ d=>(kx (ba5 (j8 d 14 : (n5 (g 14) (p.x * q.z)).p S w)))) ?_
 refine ab7 53 3 2 (fun x0=>N5 x0 [p.z * q.x,-(p.x * q.z)]) ⟨c8,hS,l8⟩ (fun _=>(by kernel_rfl)) (fun _ g S w x0 w' _ _ _ _ d s hrow=>bn7 ((j8 d 7 : (n5 (g 7) (p.z * q.x)).p S w).to s) ((j8 d 15 : (n5 (g 15) (-(p.x * q.z))).p S w).to s) (kc hrow (by kernel_rfl))) ?_
 refine f4 3 n5 (p.z * q.x - p.x * q.z) (fun _ g S w d _ _ _ s=>(kx (ae2 (m:=m + n) (ar9 _ _) d (j8 s 16 : (N5 (g 16) [p.z * q.x,-(p.x * q.z)]).p S w) (be6 (r5 hm.2.2 hn.1) (ab5 (r5 hm.1 hn.2.2))) (by simp only [List.length]; omega)))) ?_
 refine b6 1 (fun g d=>(n5 (d 17) (p.z * q.x - p.x * q.z)).and g) (fun g _=>(by kernel_rfl)) ?_
 intro η_2
 refine a8 18 ?_
 refine a6 7 ?_
 refine f4 3 n5 (p.x * q.y) (fun _ _ S w g _ _ d _=>(kx (A9 g d.2.2.1 d.2.2.2.2.2.2.1 hm.1 hn.2.1 (by omega)))) ?_
 refine a6 6 ?_
 refine f4 3 n5 (p.y * q.x) (fun _ _ S w g _ _ d _=>(kx (A9 g d.2.2.2.1 d.2.2.2.2.2.1 hm.2.1 hn.1 (by omega)))) ?_
 refine f4 3 n5 (-(p.y * q.x)) (fun _ g S w _ _ _ _ d=>(kx (ba5 (j8 d 14 : (n5 (g 14) (p.y * q.x)).p S w)))) ?_
 refine ab7 53 3 2 (fun x0=>N5 x0 [p.x * q.y,-(p.y * q.x)]) ⟨c8,hS,l8⟩ (fun _=>(by kernel_rfl)) (fun _ g S w x0 w' _ _ _ _ d s hrow=>bn7 ((j8 d 7 : (n5 (g 7) (p.x * q.y)).p S w).to s) ((j8 d 15 : (n5 (g 15) (-(p.y * q.x))).p S w).to s) (kc hrow (by kernel_rfl))) ?_
 refine f4 3 n5 (p.x * q.y - p.y * q.x) (fun _ g S w d _ _ _ s=>(kx (ae2 (m:=m + n) (ar9 _ _) d (j8 s 16 : (N5 (g 16) [p.x * q.y,-(p.y * q.x)]).p S w) (be6 (r5 hm.1 hn.2.1) (ab5 (r5 hm.2.1 hn.1))) (by simp only [List.length]; omega)))) ?_
 refine b6 1 (fun g d=>(n5 (d 17) (p.x * q.y - p.y * q.x)).and g) (fun g _=>(by kernel_rfl)) ?_
 intro η_3
 exact j9 (az7 (η_1 17) (η_2 17) (η_3 17)) rfl (fun S w g d s=>⟨d,_,_,_,rfl,s.2.2.1.mono fun k _ hk=>g k hk,s.2.1.mono fun k _ hk=>g k hk,s.1.mono fun k _ hk=>g k hk⟩)
theorem Y4 {p : T3} (hS : Up S w) (h : TripV S w v p) : Gives prog 64 [v] w fun v' w'=>v' = .bool (tst p.None) ∧ Ext w w':=by
 obtain ⟨a,b,c,rfl,ha,hb,hc⟩:=h
 refine n4 (E:=env) (S0:=S) (G:=((n5 a p.x).and ((n5 b p.y).and (n5 c p.z)))) (l:=[.agg [.ag 3 a,.ag 3 b,.ag 3 c]]) func64 rfl rfl rfl ⟨I1 ⟨ha.okc,hb.okc,hc.okc,trivial⟩,trivial⟩ rfl ⟨ha,hb,hc⟩ ?_
 refine n9 (.one (.tp (p.x = 0))) rfl (fun _ S w g _ _ d=>(kx (D9 g d.1))) ?_
 refine O8 (p:=p.x = 0) 6 (fun hx=>?_) (fun hx=>?_)
 ·refine n9 (.one (.tp (p.y = 0))) rfl (fun _ S w g _ _ d=>(kx (D9 g d.2.1))) ?_
  refine O8 (p:=p.y = 0) 11 (fun hy=>?_) (fun hy=>?_)
  ·refine n9 (.one (.tp (p.z = 0))) rfl (fun _ S w g _ _ d=>(kx (D9 g d.2.2))) ?_
   exact j9 (.bool (tst (p.z = 0))) rfl (fun S w _ g _=>⟨by rw [show p.None = (p.z = 0) from propext ⟨fun h=>h.2.2,fun h=>⟨hx,hy,h⟩⟩],g⟩)
  exact j9 (.bool false) rfl (fun S w _ g _=>⟨by rw [j2 fun h : p.None=>hy h.2.1],g⟩)
 exact j9 (.bool false) rfl (fun S w _ g _=>⟨by rw [j2 fun h : p.None=>hx h.1],g⟩)
theorem G6 {p q : T3} (hS : Up S w) (hp : TripV S w vp p) (hq : TripV S w vq q) (hm : tl p m) (hn : tl q n) (hmn : 2 * (m + n + 1) + 1 ≤ 3344) :
  Gives prog 65 [vp,vq] w fun v' w'=>v' = .bool (tst (T3.Same p q)) ∧ Ext w w':=by
 refine n4 (E:=env) (S0:=S) (G:=((j5 vp p).and (j5 vq q))) (l:=[.one (.ag 9 vp),.one (.ag 9 vq)]) func65 rfl rfl rfl ⟨hp.ok,hq.ok,trivial⟩ rfl ⟨hp,hq⟩ ?_
 refine o6 9 j5 (p.cross q) (fun _ S w g _ _ d=>(kx (S6 g d.1 d.2 hm hn hmn))) ?_
 intro x
 refine n9 (.one (.tp (T3.Same p q))) rfl (fun _ S w g _ _ d=>(kx (Y4 g d.1))) ?_
 exact j9 (.bool (tst (T3.Same p q))) rfl (fun S w _ g _=>⟨rfl,g⟩)
theorem bv4 {p q r : T3} (hS : Up S w) (hp : TripV S w vp p) (hq : TripV S w vq q) (hr : TripV S w vr r) (hm : tl p m) (hn : tl q n) (hk : tl r k) (hmn : 3 * (2 * (m + n) + 1 + k + 1) + 1 ≤ 3344) :
  Gives prog 86 [vp,vq,vr] w fun v' w'=>v' = .bool (tst (T3.Flat p q r)) ∧ Ext w w':=by
 have hc:=q7 hm hn
 refine n4 (E:=env) (S0:=S) (G:=((j5 vp p).and ((j5 vq q).and (j5 vr r)))) (l:=[.one (.ag 9 vp),.one (.ag 9 vq),.one (.ag 9 vr)]) func86 rfl rfl rfl ⟨hp.ok,hq.ok,hr.ok,trivial⟩ rfl ⟨hp,hq,hr⟩ ?_
 refine a8 6 ?_
 refine a6 2 ?_
 refine f4 9 j5 (p.cross q) (fun _ _ S w g _ _ d _=>(kx (S6 g d.1 d.2.1 hm hn (by omega)))) ?_
 refine a6 1 ?_
 refine f4 3 n5 ((p.cross q).dot r) (fun _ g S w d _ _ s t=>(kx (al5 d (j8 t 2 : (j5 (g 2) (p.cross q)).p S w) s.2.2 hc hk (by omega)))) ?_
 refine af4 (.one (.tp (T3.Flat p q r))) rfl (fun _ g S w d _ _ _ s=>(kx (D9 d (j8 s 4 : (n5 (g 4) ((p.cross q).dot r)).p S w)))) ?_
 refine b6 0 (fun g _=>g) (fun g _=>(by kernel_rfl)) ?_
 intro η_1
 exact j9 (.bool (tst (T3.Flat p q r))) rfl (fun S w _ g _=>⟨rfl,g⟩)
def R5 (e : Int) : List PanicEntry:=[{ v:=.iface 162 (.agg #[.int .i64 e]),recovered:=false }]
theorem I0 {e : Int} : Pan prog 61 [.int .i64 e] w (R5 e):=by
 have hS : Up All w:=Up.all
 refine U9 (E:=env) (S0:=All) (G:=Gh.nil) (l:=[.one (.int .i64 e)]) func61 rfl rfl rfl ⟨trivial,trivial⟩ rfl trivial ?_
 exact dp2 (.iface 162 (.agg #[.int .i64 e])) ⟨c8,hS,l8⟩ (by kernel_rfl) (by kernel_rfl) (fun S w _ g _ ρ=>⟨rfl,g⟩)
open Classical in
noncomputable def U4 (p : Rat → Prop) : List Rat → Nat → Int
 | [],_=>-1
 | x :: r,k=>if p x then (k : Int) else U4 p r (k + 1)
theorem bt1 {p : Rat → Prop} (hj : j < l.length) : (p (l.getD j 0) → U4 p (l.drop j) j = (j : Int)) ∧ (¬ p (l.getD j 0) → U4 p (l.drop j) j = U4 p (l.drop (j + 1)) (j + 1)):=by
 have e : l.drop j = l.getD j 0 :: l.drop (j + 1):=by
  rw [List.drop_eq_getElem_cons hj,List.getD_eq_getElem?_getD,List.getElem?_eq_getElem hj]
  rfl
 rw [e]
 exact ⟨fun h=>by unfold U4; rw [if_pos h],fun h=>by conv=>lhs; unfold U4; rw [if_neg h]⟩
theorem an8 {p : Rat → Prop} : ∀ {l : List Rat} {k : Nat},(∃ x ∈ l,p x) ↔ 0 ≤ U4 p l k:=by
 intro l
 induction l with
 | nil=>intro k; unfold U4; simp
 | cons x r ih=>
  intro k
  unfold U4
  by_cases h : p x
  ·rw [if_pos h]; exact ⟨fun _=>by omega,fun _=>⟨x,List.mem_cons_self ..,h⟩⟩
  rw [if_neg h,← ih]
  constructor
  ·rintro ⟨y,hy,hp⟩
   rcases List.mem_cons.1 hy with rfl | hy
   ·exact absurd hp h
   exact ⟨y,hy,hp⟩
  rintro ⟨y,hy,hp⟩; exact ⟨y,List.mem_cons_of_mem _ hy,hp⟩
abbrev dv0 (P : Program) (f : FuncId) (w : World) (l : List Rat) (p : Rat → Prop) : Prop:=∀ S' w' x q,q ∈ l → Up S' w' → Ext w w' → RatV S' w' x q → Gives P f [x] w' fun v w''=>v = .bool (tst (p q)) ∧ Ext w' w''
theorem b59 {p : Rat → Prop} (f : FuncId) [ci : CallI prog f] (hS : Up S w) (h : SeqV true 3 ai6 S w v l) (hf : dv0 prog f w l p) :
  Gives prog 190 [v,.func (.func f) #[] #[]] w fun v' w'=>v' = .int .i64 (U4 p l 0) ∧ Ext w w':=by
 have hmx:=h.len_le
 unfold maxLen at hmx
 refine n4 (E:=env) (S0:=S) (G:=(N5 v l)) (l:=[.one (.sl v (l).length),.one (.fn f [])]) func190 rfl rfl rfl ⟨h.sl,(fun _ h=>by cases h),trivial⟩ rfl h ?_
 refine ac0 (ι:=Nat) [(4,5),(8,18)] (fun j=>[(8,.one (.int .i64 (j : Int)))]) (fun _=>[]) (fun _ g=>g) (fun j=>j ≤ l.length ∧ U4 p (l.drop j) j = U4 p l 0) (fun j=>l.length - j) 0 ⟨c8,hS,l8⟩ (by kernel_rfl) (by kernel_rfl) (fun _=>(by kernel_rfl)) (fun _=>(by kernel_rfl)) (by kernel_rfl) (⟨Nat.zero_le _,rfl⟩) (fun S w _ _=>⟨z8 rfl,fun p hp=>by cases hp⟩) (fun S w _ g=>g) (fun hso j hj=>?_)
 refine z7 (p:=(j : Int) < (l.length : Int)) (fun hlt=>?_) (fun hlt=>?_)
 ·have hlt' : j < l.length:=by omega
  have hx0 : l[j]? = some (l.getD j 0):=by rw [List.getD_eq_getElem?_getD,List.getElem?_eq_getElem hlt']; rfl
  obtain ⟨d1,d2⟩:=bt1 (p:=p) hlt'
  refine o7 (bl3 v l.length (j : Int) 53 3 (fun u0=>atG true 3 (fun x0=>n5 x0 (l.getD j 0)) u0) (by kernel_rfl) ⟨c8,hS,l8⟩ (fun _ S w _ _ g=>g.el rfl rfl hx0) ?_)
  intro u_1
  refine o7 (bg8 u_1 53 3 true (fun x0=>.one (.ag 3 x0)) (fun x0=>n5 x0 (l.getD j 0)) (by kernel_rfl) ⟨c8,hS,l8⟩ (fun S w _ g=>g.1) (fun _ _ _ h=>⟨h.ok,rfl⟩) ?_)
  intro x
  refine s_K (.one (.tp (p (l.getD j 0)))) ⟨c8,hS,l8⟩ (by kernel_rfl) (di8 (by kernel_rfl)) (bk8 rfl) rfl (fun _ S w g _ d s=>(kx (hf _ _ _ _ (List.mem_of_getElem? hx0) g d s.1))) ?_
  refine z7 (p:=p (l.getD j 0)) (fun hp=>?_) (fun hp=>?_)
  ·refine al7 ?_
   exact j9 (.int .i64 (j : Int)) rfl (fun S w _ g _=>⟨by rw [← hj.2,d1 hp],g⟩)
  refine P9 (ps:=[InR .i64 ((j : Int) + 1)]) (by simp only [I3,InR,and_true]; omega) ?_
  exact ac7 (j + 1) ⟨c8,hS,l8⟩ hso (by kernel_rfl) (by kernel_rfl) (fun _=>(by kernel_rfl)) (fun _=>(by kernel_rfl)) (by kernel_rfl) (⟨by omega,by rw [← d2 hp]; exact hj.2⟩) (by omega) (fun S w _ _=>⟨z8 rfl,fun p hp=>by cases hp⟩) (fun S w _ g=>g.2.2)
 refine al7 ?_
 exact j9 (.int .i64 (-1)) rfl (fun S w _ g _=>⟨by rw [← hj.2,List.drop_of_length_le (by omega)]; rfl,g⟩)
theorem ac9 {p : Rat → Prop} (f : FuncId) [ci : CallI prog f] (hS : Up S w) (h : SeqV true 3 ai6 S w v l) (hf : dv0 prog f w l p) :
  Gives prog 157 [v,.func (.func f) #[] #[]] w fun v' w'=>v' = .bool (tst (∃ x ∈ l,p x)) ∧ Ext w w':=by
 refine n4 (E:=env) (S0:=S) (G:=(N5 v l)) (l:=[.one (.sl v (l).length),.one (.fn f [])]) func157 rfl rfl rfl ⟨h.sl,(fun _ h=>by cases h),trivial⟩ rfl h ?_
 refine n9 (.one (.int .i64 (U4 p l 0))) rfl (fun _ S w g _ d s=>(kx (b59 f g s (fun S' w' x q h0 h1 h2 h3=>hf S' w' x q h0 h1 (d.trans h2) h3)))) ?_
 exact j9 (.bool (tst (0 ≤ U4 p l 0))) rfl (fun S w _ g _=>⟨by rw [an8 (k:=0)],g⟩)
def aa6 (q : Rat) : Prop:=40 < Lib.nDigits q.num.natAbs ∨ 40 < Lib.nDigits q.den
theorem bx0 (z : Int) (h : 0 ≤ z) : (Lib.itoa z).length = Lib.nDigits z.natAbs:=by
 obtain ⟨n,rfl⟩ : ∃ n : Nat,z = (n : Int):=⟨z.toNat,by omega⟩
 rw [bm5,Lib.decDigits_length]
 rfl
theorem dk6 (z : Int) (h : z < 0) : (Lib.itoa (-z)).length = Lib.nDigits z.natAbs:=by
 rw [bx0 (-z) (by omega),Int.natAbs_neg]
theorem d55 (hS : Up S w) (h : RatV S w v q) : Gives prog 191 [v] w fun v' w'=>Ext w w' ∧ IntV S 227 .u32 w' v' q.num:=by
 obtain ⟨m,b,rfl,hm,hb⟩:=h
 have hi : IntV S 227 .u32 w (.agg #[.bool (tst (q.num < 0)),m]) q.num:=⟨m,rfl,hm⟩
 refine n4 (E:=env) (S0:=S) (G:=(c52 (.agg #[.bool (tst (q.num < 0)),m]) q.num)) (l:=[.agg [.tp (q.num < 0),.val m,.val b]]) func191 rfl rfl rfl ⟨I1 ⟨trivial,hm.one,hb.one,trivial⟩,trivial⟩ rfl hi ?_
 exact j9 (.agg #[.bool (tst (q.num < 0)),m]) rfl (fun S w g d s=>⟨d,s.mono fun k _ hk=>g k hk⟩)
theorem br3 (ht : Tab w) (hS : Up S w) (h : RatV S w v q) (hl : rl q 1000000) : Gives prog 159 [v] w fun v' w'=>v' = .bool (tst (aa6 q)) ∧ Ext w w':=by
 have h1 : zl q.num ≤ 1000000:=hl.1
 have h2 : zl (q.den : Int) ≤ 1000000:=hl.2
 have ld:=bx0 (q.den : Int) (by omega)
 rw [Int.natAbs_natCast] at ld
 refine n4 (E:=env) (S0:=S) (G:=(n5 v q)) (l:=[.one (.ag 3 v)]) func159 rfl rfl rfl ⟨h.ok,trivial⟩ rfl h ?_
 refine o6 2 c52 q.num (fun _ S w g _ _ d=>(kx (d55 g d))) ?_
 intro n
 refine n9 (.one (.int .i64 q.num.sign)) rfl (fun _ S w _ _ _ g=>(kx (dd7 g.1))) ?_
 refine z7 (p:=q.num.sign < 0) (fun hs=>?_) (fun hs=>?_)
 ·have hneg : q.num < 0:=Int.sign_neg_iff.1 hs
  have ln:=dk6 q.num hneg
  refine o6 2 c52 (-q.num) (fun _ S w _ _ _ g=>(kx (dt7 g.1))) ?_
  intro m
  refine n9 (.one (.str (Lib.itoa (-q.num)))) rfl (fun _ S w _ _ g d=>(kx (bj8 (ht.to g) d.1 (by rw [d11]; omega)))) ?_
  refine O8 (p:=(40 : Int) < ((Lib.itoa (-q.num)).length : Int)) 15 (fun h4=>?_) (fun h4=>?_)
  ·exact j9 (.bool true) rfl (fun S w _ g _=>⟨by rw [j6 (show aa6 q from .inl (by omega))],g⟩)
  refine o6 2 c52 (q.den : Int) (fun _ S w g _ _ d=>(kx (by9 g d.2.2))) ?_
  intro d
  refine n9 (.one (.str (Lib.itoa (q.den : Int)))) rfl (fun _ S w _ _ g d=>(kx (bj8 (ht.to g) d.1 (by omega)))) ?_
  exact j9 (.bool (tst ((40 : Int) < ((Lib.itoa (q.den : Int)).length : Int)))) rfl (fun S w _ g d=>have h:=d.2.2.2; ⟨by rw [show aa6 q = ((40 : Int) < ((Lib.itoa (q.den : Int)).length : Int)) from propext ⟨fun h=>by rcases h with h | h <;> omega,fun h=>.inr (by omega)⟩],g⟩)
 have hneg : ¬ q.num < 0:=fun h=>hs (Int.sign_neg_iff.2 h)
 have ln:=bx0 q.num (by omega)
 refine n9 (.one (.str (Lib.itoa q.num))) rfl (fun _ S w _ _ g d=>(kx (bj8 (ht.to g) d.1 (by omega)))) ?_
 refine O8 (p:=(40 : Int) < ((Lib.itoa q.num).length : Int)) 15 (fun h4=>?_) (fun h4=>?_)
 ·exact j9 (.bool true) rfl (fun S w _ g _=>⟨by rw [j6 (show aa6 q from .inl (by omega))],g⟩)
 refine o6 2 c52 (q.den : Int) (fun _ S w g _ _ d=>(kx (by9 g d.2))) ?_
 intro d
 refine n9 (.one (.str (Lib.itoa (q.den : Int)))) rfl (fun _ S w _ _ g d=>(kx (bj8 (ht.to g) d.1 (by omega)))) ?_
 exact j9 (.bool (tst ((40 : Int) < ((Lib.itoa (q.den : Int)).length : Int)))) rfl (fun S w _ g d=>have h:=d.2.2; ⟨by rw [show aa6 q = ((40 : Int) < ((Lib.itoa (q.den : Int)).length : Int)) from propext ⟨fun h=>by rcases h with h | h <;> omega,fun h=>.inr (by omega)⟩],g⟩)
theorem bz8 (hS : Up S w) (h : RatV S w v q) : Gives prog 158 [v] w fun v' w'=>v' = .bool (tst (¬ q = 0)) ∧ Ext w w':=by
 refine n4 (E:=env) (S0:=S) (G:=(n5 v q)) (l:=[.one (.ag 3 v)]) func158 rfl rfl rfl ⟨h.ok,trivial⟩ rfl h ?_
 refine n9 (.one (.tp (q = 0))) rfl (fun _ S w g _ _ d=>(kx (D9 g d))) ?_
 exact j9 (.bool (tst (¬ q = 0))) rfl (fun S w _ g _=>⟨rfl,g⟩)
theorem do2 (hS : Up S w) (h : RatV S w v q) : Gives prog 192 [v] w fun v' w'=>v' = .bool (tst (¬ q = 0)) ∧ Ext w w':=by
 refine n4 (E:=env) (S0:=S) (G:=(n5 v q)) (l:=[.one (.ag 3 v)]) func192 rfl rfl rfl ⟨h.ok,trivial⟩ rfl h ?_
 refine n9 (.one (.tp (q = 0))) rfl (fun _ S w g _ _ d=>(kx (D9 g d))) ?_
 exact j9 (.bool (tst (¬ q = 0))) rfl (fun S w _ g _=>⟨rfl,g⟩)
def ah4 (l : List Rat) : Prop:=¬ ∃ x ∈ l,¬ x = 0
def am8 (l : List Rat) : Prop:=∃ x ∈ l,aa6 x
theorem a10 (ht : Tab w) (hS : Up S w) (h : SeqV true 3 ai6 S w v l) (hl : ∀ x ∈ l,rl x 1000000) (h1 : ¬ ah4 l) (h2 : ¬ am8 l) : Gives prog 117 [v] w fun v' w'=>v' = .tuple #[] ∧ Ext w w':=by
 refine n4 (E:=env) (S0:=S) (G:=(N5 v l)) (l:=[.one (.sl v (l).length)]) func117 rfl rfl rfl ⟨h.sl,trivial⟩ rfl h ?_
 refine n9 (.one (.tp (∃ x ∈ l,¬ x = 0))) rfl (fun _ S w g _ _ d=>(kx (ac9 158 g d fun _ _ _ _ _ h1 _ h3=>bz8 h1 h3))) ?_
 refine as7 (p:=¬ (∃ x ∈ l,¬ x = 0)) h1 ?_
 refine n9 (.one (.tp (∃ x ∈ l,aa6 x))) rfl (fun _ S w g _ d s=>(kx (ac9 159 g s fun _ _ _ _ h0 h1 h2 h3=>br3 ((ht.to d).to h2) h1 h3 (hl _ h0)))) ?_
 refine as7 (p:=∃ x ∈ l,aa6 x) h2 ?_
 exact j9 (.tuple #[]) rfl (fun S w _ g _=>⟨rfl,g⟩)
theorem ch0 (hS : Up S w) (h : SeqV true 3 ai6 S w v l) (h1 : ah4 l) : Pan prog 117 [v] w (R5 60):=by
 refine U9 (E:=env) (S0:=S) (G:=(N5 v l)) (l:=[.one (.sl v (l).length)]) func117 rfl rfl rfl ⟨h.sl,trivial⟩ rfl h ?_
 refine n9 (.one (.tp (∃ x ∈ l,¬ x = 0))) rfl (fun _ S w g _ _ d=>(kx (ac9 158 g d fun _ _ _ _ _ h1 _ h3=>bz8 h1 h3))) ?_
 refine am0 (p:=¬ (∃ x ∈ l,¬ x = 0)) h1 ?_
 exact af6 (fun _ S w _ _ g _=>(kx (ap3 (I0 (e:=60)) g)))
theorem cf0 (ht : Tab w) (hS : Up S w) (h : SeqV true 3 ai6 S w v l) (hl : ∀ x ∈ l,rl x 1000000) (h1 : ¬ ah4 l) (h2 : am8 l) : Pan prog 117 [v] w (R5 11):=by
 refine U9 (E:=env) (S0:=S) (G:=(N5 v l)) (l:=[.one (.sl v (l).length)]) func117 rfl rfl rfl ⟨h.sl,trivial⟩ rfl h ?_
 refine n9 (.one (.tp (∃ x ∈ l,¬ x = 0))) rfl (fun _ S w g _ _ d=>(kx (ac9 158 g d fun _ _ _ _ _ h1 _ h3=>bz8 h1 h3))) ?_
 refine as7 (p:=¬ (∃ x ∈ l,¬ x = 0)) h1 ?_
 refine n9 (.one (.tp (∃ x ∈ l,aa6 x))) rfl (fun _ S w g _ d s=>(kx (ac9 159 g s fun _ _ _ _ h0 h1 h2 h3=>br3 ((ht.to d).to h2) h1 h3 (hl _ h0)))) ?_
 refine am0 (p:=∃ x ∈ l,aa6 x) h2 ?_
 exact af6 (fun _ S w _ _ g _=>(kx (ap3 (I0 (e:=11)) g)))
abbrev Cx.fnK (P : Program) (fn : Func) (E : Env) (w0 : World) (S0 K : Nat → Prop) (Ψ : Value → World → Prop) : Cx:=⟨P,fn.ntmps,E,w0,S0,K,az0 P fn Ψ,0,fun _=>0⟩
def SVsOkM (m : Nat) : List SV → Prop
 | []=>True
 | s :: r=>s.Ok m ∧ SVsOkM m r
theorem SVsOkM.all : ∀ {l : List SV},SVsOkM m l → ∀ s ∈ l,s.Ok m:=by
 intro l
 induction l with
 | nil=>intro _ s hs; cases hs
 | cons x r ih=>
  intro h s hs
  rcases List.mem_cons.1 hs with rfl | hs
  ·exact h.1
  exact ih h.2 s hs
theorem bh2 {l : List SV} (hok : SVsOkM hp.length l) (hM : Mem base hp β w) (hb : base.m = 0) : Sat base ⟨bo3 0 l,hp⟩ β (fun i=>(l.map (SV.den β)).getD i undef) w:=
 ⟨fun d s hs=>by have h:=bt0 (β:=β) (m:=hp.length) (i:=0) (d:=d) hok.all s hs; simpa using h,hM,by rw [hb]; exact Nat.zero_le _,fun i hi=>by omega⟩
theorem b55 {E : Env} {fn : Func} {code : Code} {l : List SV} {G : Gh} (hf : P.funcs[f]? = some fn) (hb : fn.body = some code) (hok : bd9 fn code = true)
  (hn : Nat.ble args.length fn.ntmps = true) (hl : SVsOkM hp.length l) (ha : l.map (SV.den β) = args) (hM : Mem (Bs.of w.heap.size K) hp β w) (hG : G.p (Sof S0 β hp) w)
  (h : Run (Cx.fnK P fn E w S0 K Ψ) ⟨.code code,[],⟨bo3 0 l,hp⟩,[]⟩ G) : Gives P f args w Ψ:=by
 refine bu4 hf hb hok hn ?_
 subst ha
 exact h.run _ _ w (bh2 hl hM rfl) .refl hG
theorem d81 [Rd] {c : Cx} {fn : Func} {G : Gh} (v : Value) (hc : c.Ok) (hQ : c.Q = az0 c.P fn Ψ) (hrs : fn.results.toList = rs) (he : ai1 o = true) (hv : ∀ β,ah8 c.E rs o.st β = some v)
  (h : ∀ β S w,Mem c.bs o.st.hp β w → (∀ k,S k → Sof c.S0 β o.st.hp k) → Keeps c.K c.w0 w → G.p S w → Ψ v w) : Run c o G:=by
 refine ⟨fun β ρ w hS hw hG=>?_⟩
 have h1:=hv β
 unfold ah8 at h1
 cases hl : at8 c.E o.st rs with
 | none=>rw [hl] at h1; cases h1
 | some l=>
  rw [hl] at h1
  simp only [Option.map_some,Option.some.injEq] at h1
  have h2:=a13 hc.env hS hl
  have h3:=h β _ w hS.mem (fun k g=>g) hw hG
  have hend : ∀ e,e = Exit.ret ∨ e = Exit.normal → az0 c.P fn Ψ e ρ w:=by
   rintro e (rfl | rfl) <;> exact ⟨_,hrs ▸ h2,h1 ▸ h3⟩
  unfold ai1 at he
  split at he <;> first | (cases he; done) | skip
  ·rename_i e1 e2
   rw [e1,e2]
   show c.Q .ret ρ w
   rw [hQ]
   exact hend _ (.inl rfl)
  rename_i e1 e2
  rw [e1,e2]
  show c.Q .normal ρ w
  rw [hQ]
  exact hend _ (.inr rfl)
theorem ag9 [Rd] {fn : Func} {E : Env} {G : Gh} (v : Value) (hc : (Cx.fnK P fn E w0 S0 K Ψ).Ok) (hv0 : (ex (Cx.fnK P fn E w0 S0 K Ψ) o).vc = []) (hrs : fn.results.toList = rs) (he : ai1 (ex (Cx.fnK P fn E w0 S0 K Ψ) o) = true) (hv : ∀ β,ah8 E rs (ex (Cx.fnK P fn E w0 S0 K Ψ) o).st β = some v)
  (h : ∀ β S w,Mem (Bs.of w0.heap.size K) (ex (Cx.fnK P fn E w0 S0 K Ψ) o).st.hp β w → (∀ k,S k → Sof S0 β (ex (Cx.fnK P fn E w0 S0 K Ψ) o).st.hp k) → Keeps K w0 w → G.p S w → Ψ v w) : Run (Cx.fnK P fn E w0 S0 K Ψ) o G:=
 O6 hc hv0 (d81 v hc rfl hrs he hv h)
section
variable {c : Cx} {o : Out} {G : Gh}
theorem fb6 [Rd] [ci : CallI c.P f] {X : Value} (s : SV) (hc : c.Ok) (hv : (ex c o).vc = []) (hf : H9 f (ex c o) = true) (hok : s.Ok 0) (hX : s.den (fun _=>0) = X)
  (h : ∀ β S w,Up S w → Mem c.bs (ex c o).st.hp β w → (∀ k,S k → c.S0 k) → Keeps c.K c.w0 w → G.p S w → ∃ args,(y5 (ex c o)).map (SV.den β) = args ∧ Gives c.P f args w fun v w'=>v = X ∧ Ext w w')
  (hn : Run c (G3 (ex c o) s) G) : Run c o G:=by
 refine O6 hc hv (bg2 f hc (fun _ : Unit=>s) (fun _=>True) (fun _=>.nil) hf (fun β S w h1 h1' h2 h3 h4=>?_) fun _ _=>?_)
 ·obtain ⟨args,ha,hg⟩:=h β S w h1 h1' h2 h3 h4
  refine ⟨args,ha,hg.mono fun v w' hv=>⟨hv.2,(),?_,hok.le (Nat.zero_le _),trivial,trivial⟩⟩
  rw [hv.1,← hX]
  exact SV.den_congr (m:=0) (fun i hi=>absurd hi (Nat.not_lt_zero i)) hok
 exact av5 (fun S w _ h=>h.2) hn
theorem ag7 [Rd] [ci : CallI c.P f] {X : Value} (s : SV) (hX : s.den (fun _=>0) = X) (h : ∀ β S w,Up S w → Mem c.bs (ex c o).st.hp β w → (∀ k,S k → c.S0 k) → Keeps c.K c.w0 w → G.p S w → ∃ args,(y5 (ex c o)).map (SV.den β) = args ∧ Gives c.P f args w fun v w'=>v = X ∧ Ext w w') (hn : Run c (G3 (ex c o) s) G) (hc : c.Ok:=by exact ⟨c8,by assumption,l8⟩) (hv : (ex c o).vc = []:=by kernel_rfl) (hf : H9 f (ex c o) = true:=by kernel_rfl) (hok : s.Ok 0:=by exact bk8 rfl) : Run c o G:=
 fb6 s hc hv hf hok hX h hn
theorem dv9 [Rd] [ci : CallI c.P f] (pat : Value → SV) (Δ : Value → Gh) (hc : c.Ok) (hv : (ex c o).vc = []) (hf : H9 f (ex c o) = true) (hok : ∀ a S w,(Δ a).p S w → (pat a).Ok 0 ∧ (pat a).den (fun _=>0) = a)
  (h : ∀ β S w,Up S w → Mem c.bs (ex c o).st.hp β w → (∀ k,S k → c.S0 k) → Keeps c.K c.w0 w → G.p S w → ∃ args,(y5 (ex c o)).map (SV.den β) = args ∧ Gives c.P f args w fun v w'=>Ext w w' ∧ (Δ v).p S w')
  (hn : ∀ a,Run c (G3 (ex c o) (pat a)) ((Δ a).and G)) : Run c o G:=by
 refine O6 hc hv (bg2 f hc pat (fun _=>True) Δ hf (fun β S w h1 h1' h2 h3 h4=>?_) fun a _=>hn a)
 obtain ⟨args,ha,hg⟩:=h β S w h1 h1' h2 h3 h4
 refine ⟨args,ha,hg.mono fun v w' hv=>?_⟩
 obtain ⟨e1,e2⟩:=hok v S w' hv.2
 exact ⟨hv.1,v,by rw [SV.den_congr (m:=0) (β':=fun _=>0) (fun i hi=>absurd hi (Nat.not_lt_zero i)) e1,e2],e1.le (Nat.zero_le _),trivial,hv.2⟩
theorem ff9 [Rd] [ci : CallI c.P f] (s : SV) (hc : c.Ok) (hv : (ex c o).vc = []) (hf : H9 f (ex c o) = true) (hok : s.Ok (ex c o).st.hp.length)
  (h : ∀ β S w,Up S w → Mem c.bs (ex c o).st.hp β w → (∀ k,S k → c.S0 k) → Keeps c.K c.w0 w → G.p S w → ∃ args,(y5 (ex c o)).map (SV.den β) = args ∧ Gives c.P f args w fun v w'=>v = s.den β ∧ Ext w w')
  (hn : Run c (G3 (ex c o) s) G) : Run c o G:=by
 refine O6 hc hv (bg2 f hc (fun _ : Unit=>s) (fun _=>True) (fun _=>.nil) hf (fun β S w h1 h1' h2 h3 h4=>?_) fun _ _=>?_)
 ·obtain ⟨args,ha,hg⟩:=h β S w h1 h1' h2 h3 h4
  exact ⟨args,ha,hg.mono fun v w' hv=>⟨hv.2,(),hv.1,hok,trivial,trivial⟩⟩
 exact av5 (fun S w _ h=>h.2) hn
theorem d36 [Rd] [ci : CallI c.P f] (hc : c.Ok) (hv : (ex c o).vc = []) (hf : H9 f (ex c o) = true)
  (h : ∀ β S w,Up S w → Mem c.bs (ex c o).st.hp β w → (∀ k,S k → c.S0 k) → Keeps c.K c.w0 w → G.p S w → ∃ args,(y5 (ex c o)).map (SV.den β) = args ∧ GivesE c.P f args w (fun _ _=>False) fun ch w'=>∀ ρ,c.Q (.panic ch) ρ w') : Run c o G:=
 O6 hc hv (ca0 (α:=Unit) f hc (fun _=>.und) (fun _=>False) (fun _=>.nil) hf (fun g S w h1 h1' h2 h3 h4=>let ⟨args,ha,hg⟩:=h g S w h1 h1' h2 h3 h4; ⟨args,ha,hg.mono (fun _ _ hf=>hf.elim) fun _ _ hp=>hp⟩) fun _ hf=>hf.elim)
theorem dn1 [Rd] {R : Fr → World → Prop} {k : List Kt} (h : Pan c.P f args w X) (hq : ∀ w',Ext w w' → ∀ ρ,c.Q (.panic X) ρ w') : GivesE c.P f args w (fun _ _=>False) fun ch w'=>∀ ρ,(c.sub R k).Q (.panic ch) ρ w':=
 h.mono (fun _ _ h=>h) fun ch w' hp ρ=>by
  obtain ⟨rfl,hk⟩:=hp
  exact a61 (k:=k) (hq w' hk ρ)
def fa3 (o : Out) : Option Value:=match bp9 o with
 | some (_,.nilCheck x)=>match opd o.st.fr x with
  | some (.one (.val v))=>some v
  | _=>none
 | _=>none
theorem d38 [Rd] (a : Addr) (hq : fa3 o = some (.pointer (some a))) (hc : c.Ok) (hn : Run c (ab1 o (.one (.val (.pointer (some a)))) o.st.hp) G) : Run c o G:=by
 unfold fa3 at hq
 split at hq <;> first | (cases hq; done) | skip
 rename_i d x hop
 split at hq <;> first | (cases hq; done) | skip
 rename_i v hx
 simp only [Option.some.injEq] at hq
 subst hq
 refine br9 (α:=Unit) (fun _=>.one (.val (.pointer (some a)))) (fun _=>.nil) hop (fun β S w F ty hkn hM hup hS hw hG=>⟨(),w,.refl,(rfl : Value.oneCell' _ = true),trivial,?_,rfl⟩) hc fun _=>av5 (fun S w _ h=>h.2) hn
 have g1 : ev F x = .pointer (some a):=(hkn x (by simp [Op.operands]) _ hx).1
 intro d pos aft g
 simp [execOp,g1,SV.den,Ch.den]
def co3 (E : Env) (o : Out) : Option (Value × Nat):=match bp9 o with
 | some (_,.slice T x none none none)=>match opd o.st.fr x,B9 E T with
  | some (.one (.val v)),.array n e=>(E.get e).map fun _=>(v,n)
  | _,_=>none
 | _=>none
theorem d66 [Rd] (b n : Nat) (hq : co3 c.E o = some (.pointer (some ⟨b,0,none⟩),n)) (hc : c.Ok) (hn : Run c (ab1 o (.one (.sl (.slice (some ⟨b,0,none⟩) n n) n)) o.st.hp) G) : Run c o G:=by
 unfold co3 at hq
 split at hq <;> first | (cases hq; done) | skip
 rename_i d T x hop
 split at hq <;> first | (cases hq; done) | skip
 rename_i v n' e hx hk
 cases hte : c.E.get e with
 | none=>rw [hte] at hq; cases hq
 | some te=>
  rw [hte] at hq
  simp only [Option.map_some,Option.some.injEq,Prod.mk.injEq] at hq
  obtain ⟨rfl,rfl⟩:=hq
  have hkd:=D8 (t:=T) hc.env
  rw [hk] at hkd
  have hkd' : c.P.underlying T = some (.array n' e):=hkd
  obtain ⟨z,hty,_⟩:=(hc.env.get hte).ty
  refine br9 (α:=Unit) (fun _=>.one (.sl (.slice (some ⟨b,0,none⟩) n' n') n')) (fun _=>.nil) hop (fun β S w F ty hkn hM hup hS hw hG=>⟨(),w,.refl,⟨_,_,rfl,Nat.le_refl _⟩,trivial,?_,rfl⟩) hc fun _=>av5 (fun S w _ h=>h.2) hn
  have g1 : ev F x = .pointer (some ⟨b,0,none⟩):=(hkn x (by simp [Op.operands]) _ hx).1
  intro d pos aft g
  simp [execOp,g1,SV.den,Ch.den,Instr.sliceAt,Instr.slice,run_underlying hkd',Instr.sliceBounds,Instr.sliceBound,asIntOf,hty.runSize w,sliced,Instr.sureAddr,Addr.add]
theorem d29 [Rd] (u : Value) (n : Nat) (Δ : Value → Gh) (hq : co3 c.E o = some (u,n)) (hc : c.Ok)
  (h : ∀ β S w,Mem c.bs o.st.hp β w → Keeps c.K c.w0 w → G.p S w → ∃ b k,u = .pointer (some ⟨b,k,none⟩) ∧ (Δ (.slice (some ⟨b,k,none⟩) n n)).p S w)
  (hn : ∀ v,Run c (ab1 o (.one (.sl v n)) o.st.hp) ((Δ v).and G)) : Run c o G:=by
 unfold co3 at hq
 split at hq <;> first | (cases hq; done) | skip
 rename_i d T x hop
 split at hq <;> first | (cases hq; done) | skip
 rename_i v n' e hx hk
 cases hte : c.E.get e with
 | none=>rw [hte] at hq; cases hq
 | some te=>
  rw [hte] at hq
  simp only [Option.map_some,Option.some.injEq,Prod.mk.injEq] at hq
  obtain ⟨rfl,rfl⟩:=hq
  have hkd:=D8 (t:=T) hc.env
  rw [hk] at hkd
  have hkd' : c.P.underlying T = some (.array n' e):=hkd
  obtain ⟨z,hty,_⟩:=(hc.env.get hte).ty
  refine br9 (α:=Value) (fun v=>.one (.sl v n')) Δ hop (fun β S w F ty hkn hM hup hS hw hG=>?_) hc hn
  obtain ⟨b,k,hu,hΔ⟩:=h β S w hM hw hG
  refine ⟨.slice (some ⟨b,k,none⟩) n' n',w,.refl,⟨_,_,rfl,Nat.le_refl _⟩,hΔ,?_,rfl⟩
  have g1 : ev F x = .pointer (some ⟨b,k,none⟩):=by rw [(hkn x (by simp [Op.operands]) _ hx).1]; exact hu
  intro d pos aft g
  simp [execOp,g1,SV.den,Ch.den,Instr.sliceAt,Instr.slice,run_underlying hkd',Instr.sliceBounds,Instr.sliceBound,asIntOf,hty.runSize w,sliced,Instr.sureAddr,Addr.add]
theorem du0 [Rd] (u : Value) (T : TypeId) (sz : Nat) (g : Bool) (pat : Value → SV) (Δ : Value → Gh) (hq : ldQ c.E o = some (u,T,sz,g)) (hc : c.Ok) (hok : ∀ a S w,(Δ a).p S w → (pat a).Ok 0 ∧ (pat a).den (fun _=>0) = a)
  (h : ∀ β S w,Mem c.bs o.st.hp β w → Keeps c.K c.w0 w → G.p S w → ∃ S' x,P6 g sz x ∧ At S' w u x.cells.toList ∧ (Δ x).p S w)
  (hn : ∀ a,Run c (ab1 o (pat a) o.st.hp) ((Δ a).and G)) : Run c o G:=by
 unfold ldQ at hq
 split at hq <;> first | (cases hq; done) | skip
 rename_i d T' x hop
 split at hq <;> first | (cases hq; done) | skip
 rename_i p hx
 cases hte : c.E.get T' with
 | none=>rw [hte] at hq; cases hq
 | some te=>
  rw [hte] at hq
  simp only [Option.map_some,Option.some.injEq,Prod.mk.injEq] at hq
  obtain ⟨rfl,rfl,rfl,rfl⟩:=hq
  refine br9 pat Δ hop (fun β S w F ty hkn hM hup hS hw hG=>?_) hc hn
  obtain ⟨S',a,h1,h2,h3⟩:=h β S w hM hw hG
  obtain ⟨h4,h5⟩:=hok a S w h3
  have g1 : ev F x = p:=(hkn x (by simp [Op.operands]) _ hx).1
  obtain ⟨z,hty,_⟩:=(hc.env.get hte).ty
  refine ⟨a,w,.refl,h4.le (Nat.zero_le _),h3,?_,rfl⟩
  rw [SV.den_congr (m:=0) (β':=fun _=>0) (fun i hi=>absurd hi (Nat.not_lt_zero i)) h4,h5]
  exact h2.load hty h1 g1
theorem r8 [Rd] (u : Value) (T : TypeId) (sz : Nat) (g : Bool) (pat : Value → SV) (Δ : Value → Gh) (h : ∀ β S w,Mem c.bs o.st.hp β w → Keeps c.K c.w0 w → G.p S w → ∃ S' x,P6 g sz x ∧ At S' w u x.cells.toList ∧ (Δ x).p S w) (hn : ∀ a,Run c (ab1 o (pat a) o.st.hp) ((Δ a).and G)) (hq : ldQ c.E o = some (u,T,sz,g):=by kernel_rfl) (hc : c.Ok:=by exact ⟨c8,by assumption,l8⟩) (hok : ∀ a S w,(Δ a).p S w → (pat a).Ok 0 ∧ (pat a).den (fun _=>0) = a:=by exact fun _ _ _ h=>⟨h.ok,rfl⟩) : Run c o G:=
 du0 u T sz g pat Δ hq hc hok h hn
end
theorem dc6 (h : Own 0 T s w v n cs) (hS : ∀ g,v.ownBlock = some g → S g) : Row S T s w v n cs:=by
 refine ⟨h.1,?_⟩
 rcases h.2 with h3 | ⟨g,cap,cur,hv,hg,hh,hn2,hm,hcc,ht⟩
 ·exact .inl h3
 exact .inr ⟨g,0,cap,cur,(0,0),hv,hn2,hm,hS g (by rw [hv]; rfl),hh,by omega,by simpa using ht⟩
theorem bf6 {b : Nat} (hb : nth hp b = some (.row T s v n cs)) (hM : Mem base hp β w) : Own 0 T s w v n cs:=by
 rw [O9] at hb
 exact hM.row b T s v n cs hb
theorem Y9 : d6 β [.ag n x] = x.cells.toList:=by simp [d6,Ch.cells]
theorem dk3 (h : Own 0 T s w v n cs) : Mem (Bs.of w.heap.size fun k=>some k ≠ v.ownBlock) [.row T s v n cs] β w:=by
 have one : ∀ {i : Nat} {x : HE},[HE.row T s v n cs][i]? = some x → i = 0 ∧ x = .row T s v n cs:=by
  intro i x hi
  cases i with
  | zero=>simp at hi; exact ⟨rfl,hi.symm⟩
  | succ i=>simp at hi
 have mine : ∀ {i k : Nat},m7 β [.row T s v n cs] i k → i = 0 ∧ v.ownBlock = some k:=by
  rintro i k ⟨x,hi,hk⟩
  obtain ⟨rfl,rfl⟩:=one hi
  exact ⟨rfl,hk⟩
 refine ⟨fun i T' l hi=>?_,fun i T' s' v' n' cs' hi=>?_,fun i A hi=>?_,fun i k hk=>?_,fun i j k hi hj=>?_⟩
 ·cases (one hi).2
 ·cases (one hi).2; exact h
 ·cases (one hi).2
 ·obtain ⟨_,hk⟩:=mine hk
  exact ⟨.inr fun e=>e hk.symm,(h.lt k hk).2⟩
 rw [(mine hi).1,(mine hj).1]
theorem ds2 (hS : ∀ k,S k → some k ≠ v.ownBlock) : ∀ k,S k → Sof (fun k=>S k ∨ some k = v.ownBlock) β [.row T s v n cs] k:=by
 intro k hk
 refine ⟨.inl hk,?_⟩
 rintro i ⟨x,hi,hx⟩
 cases i with
 | zero=>
  simp at hi
  subst hi
  exact hS k hk (Eq.symm hx)
 | succ i=>simp at hi
theorem H2 : ∀ k,¬ (some k ≠ v.ownBlock) → S k ∨ some k = v.ownBlock:=fun _ h=>.inr (Classical.byContradiction h)
theorem A4 (h : Up S w) : Up (fun k=>S k ∨ some k = v.ownBlock) w:=fun k hk=>.inl (h k hk)
theorem dm6 {b : Nat} (h : Own 0 T s w (.slice (some ⟨b,0,none⟩) n n) n cs) : Blk w b T cs:=by
 rcases h.2 with ⟨h1,_⟩ | ⟨g,cap,cur,h1,_,h2,_,_,h3,h4⟩
 ·cases h1
 simp only [Value.slice.injEq,Option.some.injEq,Addr.mk.injEq] at h1
 obtain ⟨⟨rfl,_,_⟩,_,rfl⟩:=h1
 have e : cs = cur.toList:=by rw [← h4]; exact List.take_of_length_le (by simpa using Nat.le_of_eq h3)
 unfold Blk
 rw [h2,e]
theorem de6 (i : Nat) (hb : nth hp i = some (.row T s v n cs)) (h : Sof (fun k=>S k ∨ some k = v.ownBlock) β hp k) : S k:=by
 rcases h.1 with h1 | h1
 ·exact h1
 rw [O9] at hb
 exact absurd ⟨_,hb,h1.symm⟩ (h.2 i)
structure ElsV {α : Type} (g : Bool) (s : Nat) (F : Value → α → Gh) (S : Nat → Prop) (w : World) (vs : List Value) (l : List α) : Prop where
 len : vs.length = l.length
 lies : ∀ x ∈ vs,P6 g s x
 el : ∀ (i : Nat) a x,l[i]? = some a → vs[i]? = some x → (F x a).p S w
abbrev bh3 {α : Type} (g : Bool) (s : Nat) (F : Value → α → Gh) (vs : List Value) (l : List α) : Gh:=
 ⟨fun S w=>ElsV g s F S w vs l,fun h k=>⟨h.len,h.lies,fun i a x h1 h2=>(F x a).keep (h.el i a x h1 h2) k⟩,fun h k=>⟨h.len,h.lies,fun i a x h1 h2=>(F x a).mono (h.el i a x h1 h2) k⟩⟩
def A7 (vs : List Value) : List Value:=vs.flatMap fun x=>x.cells.toList
section
variable {α : Type} {g : Bool} {s : Nat} {F : Value → α → Gh} {S : Nat → Prop} {w : World} {vs : List Value} {l : List α}
theorem Z3 (h : ∀ x ∈ vs,P6 g s x) : (A7 vs).length = vs.length * s:=by
 induction vs with
 | nil=>simp [A7]
 | cons x r ih=>
  have h1:=(h x (List.mem_cons_self ..)).1
  have h2:=ih fun y hy=>h y (List.mem_cons_of_mem _ hy)
  unfold A7 at h2 ⊢
  rw [List.flatMap_cons,List.length_append,h1,h2,List.length_cons,Nat.add_mul,Nat.one_mul,Nat.add_comm]
theorem dd5 (h : ∀ x ∈ vs,P6 g s x) : ∀ {i : Nat} {y : Value},i < vs.length → (A7 vs).take (i * s) ++ y.cells.toList ++ (A7 vs).drop (i * s + s) = A7 (vs.set i y):=by
 induction vs with
 | nil=>intro i y hi; simp at hi
 | cons x r ih=>
  intro i y hi
  have h1:=(h x (List.mem_cons_self ..)).1
  have ih2 : ∀ {i : Nat} {y : Value},i < r.length → (A7 r).take (i * s) ++ y.cells.toList ++ (A7 r).drop (i * s + s) = A7 (r.set i y):=ih fun y hy=>h y (List.mem_cons_of_mem _ hy)
  unfold A7 at ih2 ⊢
  rw [List.flatMap_cons]
  cases i with
  | zero=>
   rw [Nat.zero_mul,Nat.zero_add,List.take_zero,List.nil_append,List.drop_left' h1,List.set_cons_zero,List.flatMap_cons]
  | succ i=>
   rw [Nat.add_mul,Nat.one_mul,List.set_cons_succ,List.flatMap_cons,← ih2 (i:=i) (y:=y) (by simpa using hi)]
   generalize r.flatMap (fun x=>x.cells.toList) = C
   have e1 : (x.cells.toList ++ C).take (i * s + s) = x.cells.toList ++ C.take (i * s):=by
    rw [show i * s + s = x.cells.toList.length + i * s by omega,List.take_length_add_append]
   have e2 : (x.cells.toList ++ C).drop (i * s + s + s) = C.drop (i * s + s):=by
    rw [show i * s + s + s = x.cells.toList.length + (i * s + s) by omega,List.drop_length_add_append]
   rw [e1,e2]
   simp only [List.append_assoc]
theorem ElsV.set (h : ElsV g s F S w vs l) {a : α} (hy : P6 g s y) (hF : (F y a).p S w) : ElsV g s F S w (vs.set i y) (l.set i a):=by
 refine ⟨by simp [h.len],fun x hx=>?_,fun j b x h1 h2=>?_⟩
 ·rcases List.mem_or_eq_of_mem_set hx with hx | rfl
  ·exact h.lies x hx
  exact hy
 by_cases e : i = j
 ·subst e
  have hi:=(List.getElem?_eq_some_iff.1 h1).1
  rw [List.length_set] at hi
  rw [List.getElem?_set_self hi] at h1
  rw [List.getElem?_set_self (by rw [h.len]; exact hi)] at h2
  cases h1
  cases h2
  exact hF
 rw [List.getElem?_set_ne e] at h1 h2
 exact h.el j b x h1 h2
theorem ElsV.own {a : α} (h : ElsV g s F S w vs l) (hown : Own 0 T s w v n (A7 vs)) (hn : n = l.length) (ha : l[i]? = some a) :
  ∃ S' x,P6 g s x ∧ At S' w (.pointer (some (adr v (i * s)))) x.cells.toList ∧ (F x a).p S w:=by
 subst hn
 have hi:=(List.getElem?_eq_some_iff.1 ha).1
 have hx : vs[i]? = some (vs[i]'(by rw [h.len]; exact hi)):=List.getElem?_eq_getElem _
 obtain ⟨S',hr⟩:=bg5 hown
 have h1:=At.of_row hr hi
 have h2:=ap7 h.lies hx
 unfold A7 at h1
 rw [h2] at h1
 exact ⟨S',_,h.lies _ (List.getElem_mem _),h1,h.el i a _ ha hx⟩
theorem ElsV.seq (h : ElsV g s F S w vs l) (hown : Own 0 T s w v n (A7 vs)) (hn : n = l.length) : SeqV g s F (fun k=>S k ∨ some k = v.ownBlock) w v l:=by
 subst hn
 exact ⟨T,vs,h.len,h.lies,dc6 hown fun k hk=>.inr hk.symm,fun i a x ha hx=>(F x a).mono (h.el i a x ha hx) fun k _ hk=>.inl hk⟩
end
abbrev ar5 (x : Rat) : Prop:=¬ x = 0
noncomputable def Y0 (l : List Rat) : Rat:=l.getD (U4 ar5 l 0).toNat 0
noncomputable def by1 (l : List Rat) : List Rat:=l.map (· / Y0 l)
noncomputable def ar0 (l : List Rat) (b : Rat) (j : Nat) : List Rat:=(l.map (· / b)).take j ++ l.drop j
theorem cj1 (l : List Rat) (b : Rat) : ar0 l b 0 = l:=by simp [ar0]
theorem c02 (l : List Rat) (b : Rat) : ar0 l b l.length = l.map (· / b):=by unfold ar0; rw [List.take_of_length_le (by simp),List.drop_length,List.append_nil]
theorem bt5 {b : Rat} : (ar0 l b j).length = l.length:=by unfold ar0; simp; omega
theorem cz4 {b : Rat} (h : j < l.length) : (ar0 l b j)[j]? = some (l.getD j 0):=by
 unfold ar0
 rw [List.getElem?_append_right (by simp; omega),List.length_take,List.length_map,Nat.min_eq_left (by omega),Nat.sub_self,List.getElem?_drop,Nat.add_zero,List.getD_eq_getElem?_getD,List.getElem?_eq_getElem h]
 rfl
theorem cl2 {b : Rat} (h : j < l.length) : ar0 l b (j + 1) = (ar0 l b j).set j (l.getD j 0 / b):=by
 unfold ar0
 have e1 : (l.map (· / b)).take (j + 1) = (l.map (· / b)).take j ++ [l.getD j 0 / b]:=by
  rw [List.take_add_one,List.getElem?_map,List.getElem?_eq_getElem h,List.getD_eq_getElem?_getD,List.getElem?_eq_getElem h]
  rfl
 have e2 : l.drop j = l.getD j 0 :: l.drop (j + 1):=by
  rw [List.drop_eq_getElem_cons h,List.getD_eq_getElem?_getD,List.getElem?_eq_getElem h]
  rfl
 rw [e1,e2,List.set_append_right _ _ (by simp; omega),List.length_take,List.length_map,Nat.min_eq_left (by omega),Nat.sub_self,List.set_cons_zero]
 simp
theorem a57 {p : Rat → Prop} : ∀ {l : List Rat} {k : Nat},0 ≤ U4 p l k → ∃ j,U4 p l k = ((k + j : Nat) : Int) ∧ j < l.length ∧ p (l.getD j 0):=by
 intro l
 induction l with
 | nil=>intro k h; unfold U4 at h; omega
 | cons x r ih=>
  intro k h
  unfold U4 at h ⊢
  by_cases hx : p x
  ·rw [if_pos hx]; exact ⟨0,by simp,by simp,hx⟩
  rw [if_neg hx] at h ⊢
  obtain ⟨j,h1,h2,h3⟩:=ih h
  exact ⟨j + 1,by rw [h1]; congr 1; omega,by simpa using h2,by simpa using h3⟩
theorem cw1 (hS : Up S w) (hown : Own 0 T 3 w v l.length (A7 vs)) (hv : ElsV true 3 ai6 S w vs l) (hd : ∀ k,S k → some k ≠ v.ownBlock)
  (hl : ∀ x ∈ l,rl x 400000000000) (hf : ∀ x ∈ l,aa8 (x / Y0 l)) (hne : 0 ≤ U4 ar5 l 0) :
  Gives prog 162 [v] w fun r w'=>r = .tuple #[] ∧ Keeps (fun k=>some k ≠ v.ownBlock) w w' ∧ ∃ vs',Own 0 T 3 w' v l.length (A7 vs') ∧ ElsV true 3 ai6 S w' vs' (by1 l):=by
 have hmx:=hv.len
 have hmx2 : l.length ≤ maxLen:=by obtain ⟨S',hr⟩:=bg5 hown; exact hr.len_le
 unfold maxLen at hmx2
 obtain ⟨p,hp,hpl,hp0⟩:=a57 hne
 rw [Nat.zero_add] at hp
 have hlead : Y0 l = l.getD p 0:=by unfold Y0; rw [hp]; rfl
 have hp1 : l[p]? = some (Y0 l):=by rw [hlead,List.getD_eq_getElem?_getD,List.getElem?_eq_getElem hpl]; rfl
 have hmem : ∀ {j},j < l.length → l.getD j 0 ∈ l:=fun {j} hj=>by rw [List.getD_eq_getElem?_getD,List.getElem?_eq_getElem hj]; exact List.getElem_mem _
 have hnum : (Y0 l).num ≠ 0:=fun h=>hp0 (by rw [← hlead]; exact Rat.num_eq_zero.1 h)
 refine b55 (E:=env) (S0:=fun k=>S k ∨ some k = (v).ownBlock) (K:=fun k=>some k ≠ (v).ownBlock) (G:=(bh3 true 3 ai6 vs l)) (l:=[.one (.sl v l.length)]) (hp:=[.row T 3 v l.length (A7 vs)]) (β:=fun _=>0) func162 rfl rfl rfl ⟨bs2 hown,trivial⟩ rfl (dk3 hown) (Gh.mono (bh3 true 3 ai6 vs l) (S:=S) hv (fun k _ g=>ds2 hd k g)) ?_
 refine fb6 (.one (.int .i64 (U4 ar5 l 0))) ⟨c8,A4 hS,H2⟩ (by kernel_rfl) (by kernel_rfl) (bk8 rfl) rfl (fun _ S w g d _ _ t=>(kx (b59 192 (A4 g) (t.seq (bf6 (T:=T) (b:=0) (s:=3) (n:=l.length) (v:=v) (cs:=A7 vs) (by kernel_rfl) d) rfl) (fun _ _ _ _ _ h1 _ h3=>do2 h1 h3)))) ?_
 refine fc0 (p:=U4 ar5 l 0 < 0) ⟨c8,A4 hS,H2⟩ (by kernel_rfl) (by kernel_rfl) (by kernel_rfl) (by omega) ?_
 refine O6 ⟨c8,A4 hS,H2⟩ (by kernel_rfl) (dg0 v l.length (U4 ar5 l 0) 53 3 (by kernel_rfl) ⟨c8,A4 hS,H2⟩ (by omega) (by omega) (fun _ S w g _ _=>let ⟨S',h⟩:=cj7 0 T 3 l.length v (A7 vs) (by kernel_rfl) g; ⟨S',_,_,h⟩) ?_)
 refine O6 ⟨c8,A4 hS,H2⟩ (by kernel_rfl) (du0 (.pointer (some (adr v ((U4 ar5 l 0).toNat * 3)))) 53 3 true (fun x0=>.one (.ag 3 x0)) (fun x0=>n5 x0 (Y0 l)) (by kernel_rfl) ⟨c8,A4 hS,H2⟩ (fun _ _ _ h=>⟨h.ok,rfl⟩) (fun _ S w g _ d=>by rw [hp]; exact d.own (bf6 (T:=T) (b:=0) (s:=3) (n:=l.length) (v:=v) (cs:=A7 vs) (by kernel_rfl) g) rfl hp1) ?_)
 intro by0
 refine ac0 (ι:=Nat × List Value) [(4,4),(15,30)] (fun i=>[(15,.one (.int .i64 (i.1 : Int)))]) (fun i=>[(0,.row T 3 v l.length (A7 i.2))]) (fun i g=>(bh3 true 3 ai6 i.2 (ar0 l (Y0 l) i.1)).and g) (fun i=>i.1 ≤ l.length) (fun i=>l.length - i.1) (0,vs) ⟨c8,A4 hS,H2⟩ (by kernel_rfl) (by kernel_rfl) (fun _=>(by kernel_rfl)) (fun _=>(by kernel_rfl)) (by kernel_rfl) (Nat.zero_le _) (fun S w _ _=>⟨I4 ⟨trivial,trivial⟩,E6 ⟨trivial,trivial⟩⟩) (fun S w _ g=>have hv:=g.2; ⟨(by rw [cj1]; exact hv),g⟩) (fun hso i hi=>?_)
 refine fd0 (p:=(i.1 : Int) < (l.length : Int)) ⟨c8,A4 hS,H2⟩ (by kernel_rfl) (by kernel_rfl) (by kernel_rfl) (fun hlt=>?_) (fun hlt=>?_)
 ·have hlt' : i.1 < l.length:=by omega
  have hg0:=cz4 (b:=Y0 l) hlt'
  refine ai8 11 ⟨c8,A4 hS,H2⟩ (by kernel_rfl) (by kernel_rfl) (by kernel_rfl) ?_
  refine a6 4 ?_
  refine c42 (fun _=>v) l.length (i.1 : Int) 53 3 (fun u0=>o8 (u0 = .pointer (some (adr v (Int.toNat (i.1 : Int) * 3))))) (fun _=>(by kernel_rfl)) (fun _=>(by kernel_rfl)) ⟨c8,A4 hS,H2⟩ (fun _ _ S w g _ _ _=>⟨by omega,by omega,(let ⟨S',h⟩:=cj7 0 T 3 l.length v (A7 i.2) (by kernel_rfl) g; ⟨S',_,_,h⟩),rfl⟩) ?_
  refine ah0 4 53 3 n5 (l.getD i.1 0) (fun _=>(by kernel_rfl)) (fun _=>(by kernel_rfl)) ⟨c8,A4 hS,H2⟩ (fun _ _ _ h=>⟨h.ok,rfl⟩) (fun _ g S w d _ t m=>by have e:=(j8 m 4 : (o8 ((g 4) = .pointer (some (adr v (Int.toNat (i.1 : Int) * 3))))).p S w); simp only at e; rw [e]; exact t.1.own (bf6 (T:=T) (b:=0) (s:=3) (n:=l.length) (v:=v) (cs:=A7 i.2) (by kernel_rfl) d) bt5.symm hg0) ?_
  refine a6 1 ?_
  refine h_1 (fun x0=>pr (.ag 3 (N6 x0)) (.lit .i64 0)) (fun x0=>ax3 x0 (l.getD i.1 0 / Y0 l) 0) (fun _=>(by kernel_rfl)) (fun _ _ _ h=>aj7 h) (fun _ g S w d _ _ s t=>(kx (bj3 (hf _ (hmem hlt')) (bk0 d (j8 t 5 : (n5 (g 5) (l.getD i.1 0)).p S w) s.2.1 (hl _ (hmem hlt')) (hl _ (List.mem_of_getElem? hp1)) hnum)))) ?_
  refine a6 2 ?_
  refine f4 3 n5 (l.getD i.1 0 / Y0 l) (fun _ g S w d _ _ _ s=>(kx (aq1 d (j8 s 7 : (ax3 (g 7) (l.getD i.1 0 / Y0 l) 0).p S w).2))) ?_
  refine b6 1 (fun g d=>(n5 (d 10) (l.getD i.1 0 / Y0 l)).and g) (fun g _=>(by kernel_rfl)) ?_
  intro η_1
  refine O6 ⟨c8,A4 hS,H2⟩ (by kernel_rfl) (dg0 v l.length (i.1 : Int) 53 3 (by kernel_rfl) ⟨c8,A4 hS,H2⟩ (by omega) (by omega) (fun _ S w g _ _=>let ⟨S',h⟩:=cj7 0 T 3 l.length v (A7 i.2) (by kernel_rfl) g; ⟨S',_,_,h⟩) ?_)
  refine O6 ⟨c8,A4 hS,H2⟩ (by kernel_rfl) (fe2 (T:=T) (s:=3) (n:=l.length) (cs:=A7 i.2) 0 ((i.1 : Int).toNat * 3) v 3 [.ag 3 (η_1 10)] (A7 (i.2.set i.1 (η_1 10))) (by kernel_rfl) (by kernel_rfl) ⟨c8,A4 hS,H2⟩ (by decide) (by omega) (fun _ S w _ g=>by rw [Int.toNat_natCast,Y9]; exact dd5 g.2.1.lies (by rw [g.2.1.len,bt5]; exact hlt'))  ?_)
  refine fc9 (ps:=[InR .i64 ((i.1 : Int) + 1)]) ⟨c8,A4 hS,H2⟩ (by kernel_rfl) (by simp only [I3,InR,and_true]; omega) ?_
  exact ac7 (i.1 + 1,i.2.set i.1 (η_1 10)) ⟨c8,A4 hS,H2⟩ hso (by kernel_rfl) (by kernel_rfl) (fun _=>(by kernel_rfl)) (fun _=>(by kernel_rfl)) (by kernel_rfl) (by omega) (by simp only; omega) (fun S w _ _=>⟨I4 ⟨trivial,trivial⟩,E6 ⟨trivial,trivial⟩⟩) (fun S w _ g=>⟨(by rw [cl2 hlt']; exact g.2.1.set g.1.lies g.1),g.2.2⟩)
 refine dv6 ⟨c8,A4 hS,H2⟩ (by kernel_rfl) (by kernel_rfl) ?_
 exact ag9 (.tuple #[]) ⟨c8,A4 hS,H2⟩ (by kernel_rfl) rfl (by kernel_rfl) (fun _=>(by kernel_rfl)) (fun _ S w g d t m=>have ho:=m.1; ⟨rfl,t,i.2,bf6 (T:=T) (b:=0) (s:=3) (n:=l.length) (v:=v) (cs:=A7 i.2) (by kernel_rfl) g,by have e : i.1 = l.length:=(by omega); rw [e,c02] at ho; exact ⟨ho.len,ho.lies,fun j a x h1 h2=>(ho.el j a x h1 h2).mono fun k _ hk=>de6 (T:=T) (s:=3) (n:=l.length) (cs:=A7 i.2) 0 (by kernel_rfl) (d k hk)⟩⟩)
namespace T3
def list (t : T3) : List Rat:=[t.x,t.y,t.z]
theorem lead_list (t : T3) : Y0 t.list = t.lead:=by
 unfold Y0 lead list U4 U4 U4 U4 ar5
 by_cases h1 : t.x = 0
 ·by_cases h2 : t.y = 0
  ·by_cases h3 : t.z = 0
   ·simp [h1,h2,h3]
   simp [h1,h2,h3]
  simp [h1,h2]
 simp [h1]
theorem normal_list (t : T3) : by1 t.list = t.normal.list:=by
 unfold by1
 rw [lead_list]
 rfl
theorem fpos_list {t : T3} (h : ¬ t.None) : 0 ≤ U4 ar5 t.list 0:=by
 refine an8.1 ?_
 unfold None at h
 by_cases h1 : t.x = 0
 ·by_cases h2 : t.y = 0
  ·exact ⟨t.z,by simp [list],fun h3=>h ⟨h1,h2,h3⟩⟩
  exact ⟨t.y,by simp [list],h2⟩
 exact ⟨t.x,by simp [list],h1⟩
end T3
theorem an2 (ha : P6 true 3 a) (hb : P6 true 3 b) (hc : P6 true 3 c) : (az7 a b c).cells.toList = A7 [a,b,c]:=by
 simp [az7,SV.den,d6,Ch.cells,Value.cells,A7]
theorem TripV.els {t : T3} (h : TripV S w v t) : ∃ vs,v.cells.toList = A7 vs ∧ ElsV true 3 ai6 S w vs t.list:=by
 obtain ⟨a,b,c,rfl,h1,h2,h3⟩:=h
 refine ⟨[a,b,c],an2 h1.lies h2.lies h3.lies,rfl,fun x hx=>?_,fun i q x hq hx=>?_⟩
 ·simp only [List.mem_cons,List.not_mem_nil,or_false] at hx
  rcases hx with rfl | rfl | rfl
  ·exact h1.lies
  ·exact h2.lies
  exact h3.lies
 match i with
 | 0=>simp [T3.list] at hq hx; subst hq hx; exact h1
 | 1=>simp [T3.list] at hq hx; subst hq hx; exact h2
 | 2=>simp [T3.list] at hq hx; subst hq hx; exact h3
 | i + 3=>simp [T3.list] at hq
theorem TripV.of_els {t : T3} (h : ElsV true 3 ai6 S w vs t.list) : ∃ v,TripV S w v t ∧ v.cells.toList = A7 vs:=by
 obtain ⟨h1,h2,h3⟩:=h
 match vs,h1 with
 | [a,b,c],_=>exact ⟨az7 a b c,⟨a,b,c,rfl,h3 0 _ _ rfl rfl,h3 1 _ _ rfl rfl,h3 2 _ _ rfl rfl⟩,an2 (h2 a (by simp)) (h2 b (by simp)) (h2 c (by simp))⟩
theorem d57 {b : Nat} (hS : Up S w) : Gives prog 122 [.pointer (some ⟨b,0,none⟩)] w fun v w'=>v = .slice (some ⟨b,0,none⟩) 3 3 ∧ Ext w w':=by
 refine n4 (E:=env) (S0:=S) (G:=Gh.nil) (l:=[.one (.val (.pointer (some ⟨b,0,none⟩)))]) func122 rfl rfl rfl ⟨rfl,trivial⟩ rfl trivial ?_
 refine o7 (d38 ⟨b,0,none⟩ (by kernel_rfl) ⟨c8,hS,l8⟩  ?_)
 refine o7 (d66 b 3 (by kernel_rfl) ⟨c8,hS,l8⟩  ?_)
 exact j9 (.slice (some ⟨b,0,none⟩) 3 3) rfl (fun S w _ g _=>⟨rfl,g⟩)
theorem cj2 {t : T3} (hS : Up S w) (h : TripV S w v t) (hB : Blk w (β 0) 55 (d6 β [.ag 9 v])) (hb : ¬ S (β 0)) (hn : ¬ t.None) (hl : tl t 400000000000) (hf : aa8 t.normal.x ∧ aa8 t.normal.y ∧ aa8 t.normal.z) :
  Gives prog 162 [.slice (some ⟨β 0,0,none⟩) 3 3] w fun r w'=>Wrt (β 0) w w' ∧ ∃ x,r = SV.und.den β ∧ SV.und.Ok m ∧ True ∧ Blk w' (β 0) 55 (d6 β [.ag 9 x]) ∧ (∀ ch ∈ [Ch.ag 9 x],ch.Ok m) ∧ (j5 x t.normal).p S w':=by
 obtain ⟨vs,e1,e2⟩:=h.els
 rw [Y9,e1] at hB
 have ho : Own 0 55 3 w (.slice (some ⟨β 0,0,none⟩) 3 3) 3 (A7 vs):=av4 hB (Nat.zero_le _) (by decide) (by rw [Z3 e2.lies,e2.len]; rfl)
 have he : Y0 t.list = t.lead:=T3.lead_list t
 refine (cw1 (T:=55) hS ho e2 (fun k g e=>hb (by cases e; exact g)) (fun x hx=>?_) (fun x hx=>?_) (T3.fpos_list hn)).mono ?_
 ·simp only [T3.list,List.mem_cons,List.not_mem_nil,or_false] at hx
  rcases hx with rfl | rfl | rfl
  ·exact hl.1
  ·exact hl.2.1
  exact hl.2.2
 ·rw [he]
  simp only [T3.list,List.mem_cons,List.not_mem_nil,or_false] at hx
  rcases hx with rfl | rfl | rfl
  ·exact hf.1
  ·exact hf.2.1
  exact hf.2.2
 rintro r w' ⟨rfl,k,vs',h1,h2⟩
 rw [T3.normal_list] at h2
 obtain ⟨x',h3,h4⟩:=TripV.of_els h2
 exact ⟨k.mono fun i hi e=>hi (by cases e; rfl),x',rfl,trivial,trivial,by rw [Y9,h4]; exact dm6 h1,fun c hc=>by rw [List.mem_singleton.1 hc]; exact Ch.Ok.up (c:=.ag 9 x') h3.ok,h3⟩
theorem c22 {t : T3} (hS : Up S w) (h : TripV S w v t) (hnn : ¬ t.None) (hl : tl t 400000000000) (hf : aa8 t.normal.x ∧ aa8 t.normal.y ∧ aa8 t.normal.z) :
  Gives prog 121 [v,.func (.func 122) #[] #[]] w fun v' w'=>Ext w w' ∧ TripV S w' v' t.normal:=by
 refine n4 (E:=env) (S0:=S) (G:=(j5 v t)) (l:=[.one (.ag 9 v),.one (.fn 122 [])]) func121 rfl rfl rfl ⟨h.ok,(fun _ h=>by cases h),trivial⟩ rfl h ?_
 refine ff9 (.one (.win 0 0 3 3)) ⟨c8,hS,l8⟩ (by kernel_rfl) (by kernel_rfl) (Nat.le_of_ble_eq_true (by kernel_rfl)) (fun _ S w g _ _ _ _=>(kx (d57 g))) ?_
 refine o7 (dm0 162 0 55 ([.ag 9 v]) ⟨c8,hS,l8⟩ (by kernel_rfl) (fun _=>.und) (fun x0=>[.ag 9 x0]) (fun _=>True) (fun x0=>j5 x0 t.normal) (by kernel_rfl) (fun _ S w g _ _ d s t=>(kx (cj2 g d s t hnn hl hf))) ?_)
 intro x _
 exact j9 x rfl (fun S w g d s=>⟨d,s.1.mono fun k _ hk=>g k hk⟩)
theorem ba3 {t : T3} (hS : Up S w) (h : TripV S w v t) (hnn : ¬ t.None) (hl : tl t 400000000000) (hf : aa8 t.normal.x ∧ aa8 t.normal.y ∧ aa8 t.normal.z) :
  Gives prog 69 [v] w fun v' w'=>Ext w w' ∧ TripV S w' v' t.normal:=by
 refine n4 (E:=env) (S0:=S) (G:=(j5 v t)) (l:=[.one (.ag 9 v)]) func69 rfl rfl rfl ⟨h.ok,trivial⟩ rfl h ?_
 refine o6 9 j5 t.normal (fun _ S w g _ _ d=>(kx (c22 g d hnn hl hf))) ?_
 intro x
 exact j9 x rfl (fun S w g d s=>⟨d,s.1.mono fun k _ hk=>g k hk⟩)
theorem b01 {t : T3} (h : tl t n) (hn : n ≤ 3344) : aa8 t.x ∧ aa8 t.y ∧ aa8 t.z:=⟨af1 h.1 hn,af1 h.2.1 hn,af1 h.2.2 hn⟩
theorem Q9 {p q : T3} (hS : Up S w) (hp : TripV S w vp p) (hq : TripV S w vq q) (hm : tl p m) (hn : tl q n) (hmn : 2 * (m + n + 1) + 1 ≤ 3344) (hk : tl (p.cross q).normal k) (hk2 : k ≤ 3344) (hs0 : ¬ T3.Same p q) :
  Gives prog 85 [vp,vq] w fun v' w'=>Ext w w' ∧ TripV S w' v' (p.cross q).normal:=by
 refine n4 (E:=env) (S0:=S) (G:=((j5 vp p).and (j5 vq q))) (l:=[.one (.ag 9 vp),.one (.ag 9 vq)]) func85 rfl rfl rfl ⟨hp.ok,hq.ok,trivial⟩ rfl ⟨hp,hq⟩ ?_
 refine o6 9 j5 (p.cross q) (fun _ S w g _ _ d=>(kx (S6 g d.1 d.2 hm hn hmn))) ?_
 intro c
 refine n9 (.one (.tp (p.cross q).None)) rfl (fun _ S w g _ _ d=>(kx (Y4 g d.1))) ?_
 refine as7 (p:=(p.cross q).None) hs0 ?_
 refine o6 9 j5 ((p.cross q).normal) (fun _ S w g _ _ d=>(kx (ba3 g d.1 hs0 (N3 (q7 hm hn) (by omega)) (b01 hk hk2)))) ?_
 intro r
 exact j9 r rfl (fun S w g d s=>⟨d,s.1.mono fun k _ hk=>g k hk⟩)
theorem bb2 {p q : T3} (hS : Up S w) (hp : TripV S w vp p) (hq : TripV S w vq q) (hm : tl p m) (hn : tl q n) (hmn : 2 * (m + n + 1) + 1 ≤ 3344) (hs0 : T3.Same p q) :
  Pan prog 85 [vp,vq] w (R5 61):=by
 refine U9 (E:=env) (S0:=S) (G:=((j5 vp p).and (j5 vq q))) (l:=[.one (.ag 9 vp),.one (.ag 9 vq)]) func85 rfl rfl rfl ⟨hp.ok,hq.ok,trivial⟩ rfl ⟨hp,hq⟩ ?_
 refine o6 9 j5 (p.cross q) (fun _ S w g _ _ d=>(kx (S6 g d.1 d.2 hm hn hmn))) ?_
 intro c
 refine n9 (.one (.tp (p.cross q).None)) rfl (fun _ S w g _ _ d=>(kx (Y4 g d.1))) ?_
 refine am0 (p:=(p.cross q).None) hs0 ?_
 exact af6 (fun _ S w _ _ g _=>(kx (ap3 (I0 (e:=61)) g)))
open Classical in
noncomputable def M9 (t : T3) : Int:=if ah4 t.list then 60 else if am8 t.list then 11 else 0
abbrev al6 (x : Value) (t : T3) : Gh:=j5 x t
abbrev cn5 (v : Value) (l : List T3) : Gh:=cv5 true 9 al6 v l
theorem bu9 {t : T3} (i : Nat) (T : TypeId) (hM : Mem base hp β w) (hb : nth hp i = some (.blk T [.ag 9 x])) (h : TripV S w x t) :
  SeqV true 3 ai6 (fun k=>S k ∨ some k = Value.ownBlock (.slice (some ⟨β i,0,none⟩) 3 3)) w (.slice (some ⟨β i,0,none⟩) 3 3) t.list:=by
 rw [O9] at hb
 have hB:=(hM.blk i T _ hb).1
 obtain ⟨vs,e1,e2⟩:=h.els
 rw [Y9,e1] at hB
 exact e2.seq (av4 hB (Nat.zero_le _) (by decide) (by rw [Z3 e2.lies,e2.len]; rfl)) rfl
theorem aj0 {t : T3} (h : tl t n) : ∀ x ∈ t.list,rl x n:=by
 intro x hx
 simp only [T3.list,List.mem_cons,List.not_mem_nil,or_false] at hx
 rcases hx with rfl | rfl | rfl
 ·exact h.1
 ·exact h.2.1
 exact h.2.2
theorem bz7 {t : T3} (h : M9 t = 0) : ¬ ah4 t.list ∧ ¬ am8 t.list:=by
 unfold M9 at h
 split at h
 ·cases h
 split at h
 ·cases h
 exact ⟨‹_›,‹_›⟩
theorem ci5 {t : T3} (ht : Tab w) (hS : Up S w) (h : SeqV true 3 ai6 S w v t.list) (hl : tl t 1000000) (hb : M9 t ≠ 0) : Pan prog 117 [v] w (R5 (M9 t)):=by
 unfold M9 at hb ⊢
 split
 ·exact ch0 hS h ‹_›
 rw [if_neg ‹_›] at hb
 split
 ·exact cf0 ht hS h (aj0 hl) ‹_› ‹_›
 rw [if_neg ‹_›] at hb
 exact absurd rfl hb
theorem T3.getD_at {l : List T3} (h : j < l.length) : l[j]? = some (l.getD j ⟨0,0,0⟩):=by rw [List.getD_eq_getElem?_getD,List.getElem?_eq_getElem h]; rfl
theorem ab8 {l : List T3} (ht : Tab w) (hS : Up S w) (h : SeqV true 9 al6 S w v l) (hl : ∀ t ∈ l,tl t 1000000) (hk : ∀ t ∈ l,M9 t = 0) : Gives prog 56 [v] w fun v' w'=>v' = .tuple #[] ∧ Ext w w':=by
 have hmx:=h.len_le
 unfold maxLen at hmx
 refine n4 (E:=env) (S0:=S) (G:=(cn5 v l)) (l:=[.one (.sl v l.length)]) func56 rfl rfl rfl ⟨h.sl,trivial⟩ rfl h ?_
 refine ac0 (ι:=Nat) [(3,3),(6,12)] (fun j=>[(6,.one (.int .i64 (j : Int)))]) (fun _=>[]) (fun _ g=>g) (fun j=>j ≤ l.length) (fun j=>l.length - j) 0 ⟨c8,hS,l8⟩ (by kernel_rfl) (by kernel_rfl) (fun _=>(by kernel_rfl)) (fun _=>(by kernel_rfl)) (by kernel_rfl) (Nat.zero_le _) (fun S w _ _=>⟨z8 rfl,fun p hp=>by cases hp⟩) (fun S w _ g=>g) (fun hso j hj=>?_)
 refine z7 (p:=(j : Int) < (l.length : Int)) (fun hlt=>?_) (fun hlt=>?_)
 ·have hlt' : j < l.length:=by omega
  have hx0:=T3.getD_at hlt'
  have hm:=List.mem_of_getElem? hx0
  refine o7 (bl3 v l.length (j : Int) 55 9 (fun u0=>atG true 9 (fun x0=>j5 x0 (l.getD j ⟨0,0,0⟩)) u0) (by kernel_rfl) ⟨c8,hS,l8⟩ (fun _ S w _ _ g=>g.el rfl rfl hx0) ?_)
  intro u_1
  refine o7 (bg8 u_1 55 9 true (fun x0=>.one (.ag 9 x0)) (fun x0=>j5 x0 (l.getD j ⟨0,0,0⟩)) (by kernel_rfl) ⟨c8,hS,l8⟩ (fun S w _ g=>g.1) (fun _ _ _ h=>⟨h.ok,rfl⟩) ?_)
  intro x
  refine ag7 (.und) rfl (fun _ S w g d _ s t=>(kx (a10 (ht.to s) (A4 g) (bu9 0 55 d (by kernel_rfl) t.1) (aj0 (hl _ hm)) (bz7 (hk _ hm)).1 (bz7 (hk _ hm)).2))) ?_
  refine P9 (ps:=[InR .i64 ((j : Int) + 1)]) (by simp only [I3,InR,and_true]; omega) ?_
  exact ac7 (j + 1) ⟨c8,hS,l8⟩ hso (by kernel_rfl) (by kernel_rfl) (fun _=>(by kernel_rfl)) (fun _=>(by kernel_rfl)) (by kernel_rfl) (by omega) (by omega) (fun S w _ _=>⟨z8 rfl,fun p hp=>by cases hp⟩) (fun S w _ g=>g.2.2)
 refine al7 ?_
 exact j9 (.tuple #[]) rfl (fun S w _ g _=>⟨rfl,g⟩)
theorem bq8 {l : List T3} (ht : Tab w) (hS : Up S w) (h : SeqV true 9 al6 S w v l) (hl : ∀ t ∈ l,tl t 1000000) (hn : n < l.length) (hb : M9 (l.getD n ⟨0,0,0⟩) ≠ 0) (hk : ∀ i,i < n → M9 (l.getD i ⟨0,0,0⟩) = 0) : Pan prog 56 [v] w (R5 (M9 (l.getD n ⟨0,0,0⟩))):=by
 have hmx:=h.len_le
 unfold maxLen at hmx
 refine U9 (E:=env) (S0:=S) (G:=(cn5 v l)) (l:=[.one (.sl v l.length)]) func56 rfl rfl rfl ⟨h.sl,trivial⟩ rfl h ?_
 refine ac0 (ι:=Nat) [(3,3),(6,12)] (fun j=>[(6,.one (.int .i64 (j : Int)))]) (fun _=>[]) (fun _ g=>g) (fun j=>j ≤ n) (fun j=>n - j) 0 ⟨c8,hS,l8⟩ (by kernel_rfl) (by kernel_rfl) (fun _=>(by kernel_rfl)) (fun _=>(by kernel_rfl)) (by kernel_rfl) (Nat.zero_le _) (fun S w _ _=>⟨z8 rfl,fun p hp=>by cases hp⟩) (fun S w _ g=>g) (fun hso j hj=>?_)
 have hlt' : j < l.length:=by omega
 refine am0 (p:=(j : Int) < (l.length : Int)) (by omega) ?_
 have hx0:=T3.getD_at hlt'
 have hm:=List.mem_of_getElem? hx0
 refine o7 (bl3 v l.length (j : Int) 55 9 (fun u0=>atG true 9 (fun x0=>j5 x0 (l.getD j ⟨0,0,0⟩)) u0) (by kernel_rfl) ⟨c8,hS,l8⟩ (fun _ S w _ _ g=>g.el rfl rfl hx0) ?_)
 intro u_1
 refine o7 (bg8 u_1 55 9 true (fun x0=>.one (.ag 9 x0)) (fun x0=>j5 x0 (l.getD j ⟨0,0,0⟩)) (by kernel_rfl) ⟨c8,hS,l8⟩ (fun S w _ g=>g.1) (fun _ _ _ h=>⟨h.ok,rfl⟩) ?_)
 intro x
 by_cases e : j = n
 ·subst e
  exact d36 ⟨c8,hS,l8⟩ (by kernel_rfl) (by kernel_rfl) (fun _ S w g d _ s t=>(kx (dn1 (ci5 (ht.to s) (A4 g) (bu9 0 55 d (by kernel_rfl) t.1) (hl _ hm) hb) (fun w' hk' ρ=>⟨rfl,s.trans hk'⟩))))
 have hj0:=bz7 (hk j (by omega))
 refine ag7 (.und) rfl (fun _ S w g d _ s t=>(kx (a10 (ht.to s) (A4 g) (bu9 0 55 d (by kernel_rfl) t.1) (aj0 (hl _ hm)) hj0.1 hj0.2))) ?_
 refine P9 (ps:=[InR .i64 ((j : Int) + 1)]) (by simp only [I3,InR,and_true]; omega) ?_
 exact ac7 (j + 1) ⟨c8,hS,l8⟩ hso (by kernel_rfl) (by kernel_rfl) (fun _=>(by kernel_rfl)) (fun _=>(by kernel_rfl)) (by kernel_rfl) (by omega) (by omega) (fun S w _ _=>⟨z8 rfl,fun p hp=>by cases hp⟩) (fun S w _ g=>g.2.2)
abbrev C0 (u : Value) (t : T3) : Gh:=atG true 9 (fun x=>j5 x t) u
theorem ba2 : ∀ {vs : List Value},d6 β (vs.map (Ch.ag n)) = A7 vs:=by
 intro vs
 induction vs with
 | nil=>rfl
 | cons x r ih=>simp only [d6,A7,List.map_cons,List.flatMap_cons,Ch.cells] at ih ⊢; rw [ih]
theorem Q5 {F : Value → α → Gh} {l : List α} (i : Nat) (T : TypeId) (vs : List Value) (hM : Mem base hp β w) (hb : nth hp i = some (.blk T (vs.map (Ch.ag s)))) (h : ElsV g s F S w vs l) (hl : l.length ≤ maxLen) :
  SeqV g s F (fun k=>S k ∨ some k = Value.ownBlock (.slice (some ⟨β i,0,none⟩) l.length l.length)) w (.slice (some ⟨β i,0,none⟩) l.length l.length) l:=by
 rw [O9] at hb
 have hB:=(hM.blk i T _ hb).1
 rw [ba2] at hB
 exact h.seq (av4 hB (Nat.zero_le _) hl (by rw [Z3 h.lies,h.len])) rfl
theorem TripV.lies {t : T3} (h : TripV S w v t) : P6 true 9 v := by
  obtain ⟨a, b, c, rfl, h1, h2, h3⟩ := h
  have e := an2 h1.lies h2.lies h3.lies
  refine ⟨by rw [e, Z3 (g := true) (s := 3) (vs := [a, b, c])]; · rfl
             · intro x hx
               simp only [List.mem_cons, List.not_mem_nil, or_false] at hx
               rcases hx with rfl | rfl | rfl
               · exact h1.lies
               · exact h2.lies
               · exact h3.lies, ?_⟩
  simp [az7, SV.den, Value.cells]
theorem ce3 {p q : T3} (h1 : TripV S w a p) (h2 : TripV S w b q) : ElsV true 9 al6 S w [a,b] [p,q]:=by
 refine ⟨rfl,fun x hx=>?_,fun i t x hq hx=>?_⟩
 ·simp only [List.mem_cons,List.not_mem_nil,or_false] at hx
  rcases hx with rfl | rfl
  ·exact h1.lies
  exact h2.lies
 match i with
 | 0=>simp at hq hx; subst hq hx; exact h1
 | 1=>simp at hq hx; subst hq hx; exact h2
 | i + 2=>simp at hq
theorem be1 {p q : T3} {P : T3 → Prop} (h1 : P p) (h2 : P q) : ∀ t ∈ [p,q],P t:=by
 intro t ht
 simp only [List.mem_cons,List.not_mem_nil,or_false] at ht
 rcases ht with rfl | rfl
 ·exact h1
 exact h2
theorem c45 {p q : T3} (ht : Tab w) (hS : Up S w) (o1 : u1.oneCell' = true) (o2 : u2.oneCell' = true) (h1 : (C0 u1 p).p S w) (h2 : (C0 u2 q).p S w) (hm : tl p m) (hn : tl q n) (hmn : 2 * (m + n + 1) + 1 ≤ 3344) (hk : tl (p.cross q).normal k) (hk2 : k ≤ 3344)
  (hp0 : M9 p = 0) (hq0 : M9 q = 0) (hs0 : ¬ T3.Same p q) :
  Gives prog 137 [u1,u2] w fun v' w'=>Ext w w' ∧ TripV S w' v' (p.cross q).normal:=by
 refine n4 (E:=env) (S0:=S) (G:=((C0 u1 p).and (C0 u2 q))) (l:=[.one (.val u1),.one (.val u2)]) func137 rfl rfl rfl ⟨o1,o2,trivial⟩ rfl ⟨h1,h2⟩ ?_
 refine o7 (r8 u1 55 9 true (fun x0=>.one (.ag 9 x0)) (fun x0=>j5 x0 p) (fun _ S w _ _ g=>let ⟨y,e1,e2,e3⟩:=g.1; ⟨S,y,e1,e2,e3⟩) ?_)
 intro x
 refine o7 (r8 u2 55 9 true (fun x0=>.one (.ag 9 x0)) (fun x0=>j5 x0 q) (fun _ S w _ _ g=>let ⟨y,e1,e2,e3⟩:=g.2.2; ⟨S,y,e1,e2,e3⟩) ?_)
 intro y
 refine ag7 (.und) rfl (fun _ S w g d _ s t=>(kx (ab8 (ht.to s) (A4 g) (Q5 1 55 [x,y] d (by kernel_rfl) (ce3 t.2.1 t.1) (show 2 ≤ maxLen by decide)) (be1 (N3 hm (by omega)) (N3 hn (by omega))) (be1 hp0 hq0)))) ?_
 refine o7 (r8 u1 55 9 true (fun x0=>.one (.ag 9 x0)) (fun x0=>j5 x0 p) (fun _ S w _ _ g=>let ⟨y,e1,e2,e3⟩:=g.2.2.1; ⟨S,y,e1,e2,e3⟩) ?_)
 intro x2
 refine o7 (r8 u2 55 9 true (fun x0=>.one (.ag 9 x0)) (fun x0=>j5 x0 q) (fun _ S w _ _ g=>let ⟨y,e1,e2,e3⟩:=g.2.2.2.2; ⟨S,y,e1,e2,e3⟩) ?_)
 intro y2
 refine o6 9 j5 ((p.cross q).normal) (fun _ S w g _ _ d=>(kx (Q9 g d.2.1 d.1 hm hn hmn hk hk2 hs0))) ?_
 intro r
 exact j9 r rfl (fun S w g d s=>⟨d,s.1.mono fun k _ hk=>g k hk⟩)
theorem c60 {p q : T3} (ht : Tab w) (hS : Up S w) (o1 : u1.oneCell' = true) (o2 : u2.oneCell' = true) (h1 : (C0 u1 p).p S w) (h2 : (C0 u2 q).p S w) (hm : tl p m) (hn : tl q n) (hmn : 2 * (m + n + 1) + 1 ≤ 3344)
  (hp0 : M9 p = 0) (hq0 : M9 q = 0) (hs0 : T3.Same p q) :
  Pan prog 137 [u1,u2] w (R5 61):=by
 refine U9 (E:=env) (S0:=S) (G:=((C0 u1 p).and (C0 u2 q))) (l:=[.one (.val u1),.one (.val u2)]) func137 rfl rfl rfl ⟨o1,o2,trivial⟩ rfl ⟨h1,h2⟩ ?_
 refine o7 (r8 u1 55 9 true (fun x0=>.one (.ag 9 x0)) (fun x0=>j5 x0 p) (fun _ S w _ _ g=>let ⟨y,e1,e2,e3⟩:=g.1; ⟨S,y,e1,e2,e3⟩) ?_)
 intro x
 refine o7 (r8 u2 55 9 true (fun x0=>.one (.ag 9 x0)) (fun x0=>j5 x0 q) (fun _ S w _ _ g=>let ⟨y,e1,e2,e3⟩:=g.2.2; ⟨S,y,e1,e2,e3⟩) ?_)
 intro y
 refine ag7 (.und) rfl (fun _ S w g d _ s t=>(kx (ab8 (ht.to s) (A4 g) (Q5 1 55 [x,y] d (by kernel_rfl) (ce3 t.2.1 t.1) (show 2 ≤ maxLen by decide)) (be1 (N3 hm (by omega)) (N3 hn (by omega))) (be1 hp0 hq0)))) ?_
 refine o7 (r8 u1 55 9 true (fun x0=>.one (.ag 9 x0)) (fun x0=>j5 x0 p) (fun _ S w _ _ g=>let ⟨y,e1,e2,e3⟩:=g.2.2.1; ⟨S,y,e1,e2,e3⟩) ?_)
 intro x2
 refine o7 (r8 u2 55 9 true (fun x0=>.one (.ag 9 x0)) (fun x0=>j5 x0 q) (fun _ S w _ _ g=>let ⟨y,e1,e2,e3⟩:=g.2.2.2.2; ⟨S,y,e1,e2,e3⟩) ?_)
 intro y2
 exact af6 (fun _ S w g _ d s=>(kx (ap3 (bb2 g s.2.1 s.1 hm hn hmn hs0) d)))
noncomputable def ad6 (p q : T3) : Int:=if M9 p = 0 then M9 q else M9 p
theorem bn8 {p q : T3} (ht : Tab w) (hS : Up S w) (h : SeqV true 9 al6 S w v [p,q]) (hm : tl p 1000000) (hn : tl q 1000000) (hb : ad6 p q ≠ 0) : Pan prog 56 [v] w (R5 (ad6 p q)):=by
 unfold ad6 at hb ⊢
 split
 ·rename_i e
  rw [if_pos e] at hb
  exact bq8 (n:=1) ht hS h (be1 hm hn) (show 1 < 2 by decide) hb (fun i hi=>by
   obtain rfl : i = 0:=by omega
   exact e)
 rename_i e
 exact bq8 (n:=0) ht hS h (be1 hm hn) (show 0 < 2 by decide) e (fun i hi=>by omega)
theorem di3 {p q : T3} (ht : Tab w) (hS : Up S w) (o1 : u1.oneCell' = true) (o2 : u2.oneCell' = true) (h1 : (C0 u1 p).p S w) (h2 : (C0 u2 q).p S w) (hm : tl p 1000000) (hn : tl q 1000000) (hb : ad6 p q ≠ 0) :
  Pan prog 137 [u1,u2] w (R5 (ad6 p q)):=by
 refine U9 (E:=env) (S0:=S) (G:=((C0 u1 p).and (C0 u2 q))) (l:=[.one (.val u1),.one (.val u2)]) func137 rfl rfl rfl ⟨o1,o2,trivial⟩ rfl ⟨h1,h2⟩ ?_
 refine o7 (r8 u1 55 9 true (fun x0=>.one (.ag 9 x0)) (fun x0=>j5 x0 p) (fun _ S w _ _ g=>let ⟨y,e1,e2,e3⟩:=g.1; ⟨S,y,e1,e2,e3⟩) ?_)
 intro x
 refine o7 (r8 u2 55 9 true (fun x0=>.one (.ag 9 x0)) (fun x0=>j5 x0 q) (fun _ S w _ _ g=>let ⟨y,e1,e2,e3⟩:=g.2.2; ⟨S,y,e1,e2,e3⟩) ?_)
 intro y
 exact d36 ⟨c8,hS,l8⟩ (by kernel_rfl) (by kernel_rfl) (fun _ S w g d _ s t=>(kx (ap3 (bn8 (ht.to s) (A4 g) (Q5 1 55 [x,y] d (by kernel_rfl) (ce3 t.2.1 t.1) (show 2 ≤ maxLen by decide)) hm hn hb) s)))
theorem dw3 {p q : T3} (ht : Tab w) (hS : Up S w) (o1 : u1.oneCell' = true) (o2 : u2.oneCell' = true) (h1 : (C0 u1 p).p S w) (h2 : (C0 u2 q).p S w) (hm : tl p m) (hn : tl q n) (hmn : 3 * (m + n + 1) + 1 ≤ 3344) (hp0 : M9 p = 0) (hq0 : M9 q = 0) :
  Gives prog 92 [u1,u2] w fun v' w'=>v' = .bool (tst (p.dot q = 0)) ∧ Ext w w':=by
 refine n4 (E:=env) (S0:=S) (G:=((C0 u1 p).and (C0 u2 q))) (l:=[.one (.val u1),.one (.val u2)]) func92 rfl rfl rfl ⟨o1,o2,trivial⟩ rfl ⟨h1,h2⟩ ?_
 refine o7 (r8 u1 55 9 true (fun x0=>.one (.ag 9 x0)) (fun x0=>j5 x0 p) (fun _ S w _ _ g=>let ⟨y,e1,e2,e3⟩:=g.1; ⟨S,y,e1,e2,e3⟩) ?_)
 intro x
 refine o7 (r8 u2 55 9 true (fun x0=>.one (.ag 9 x0)) (fun x0=>j5 x0 q) (fun _ S w _ _ g=>let ⟨y,e1,e2,e3⟩:=g.2.2; ⟨S,y,e1,e2,e3⟩) ?_)
 intro y
 refine ag7 (.und) rfl (fun _ S w g d _ s t=>(kx (ab8 (ht.to s) (A4 g) (Q5 0 55 [x,y] d (by kernel_rfl) (ce3 t.2.1 t.1) (show 2 ≤ maxLen by decide)) (be1 (N3 hm (by omega)) (N3 hn (by omega))) (be1 hp0 hq0)))) ?_
 refine o7 (r8 u1 55 9 true (fun x0=>.one (.ag 9 x0)) (fun x0=>j5 x0 p) (fun _ S w _ _ g=>let ⟨y,e1,e2,e3⟩:=g.2.2.1; ⟨S,y,e1,e2,e3⟩) ?_)
 intro x2
 refine o7 (r8 u2 55 9 true (fun x0=>.one (.ag 9 x0)) (fun x0=>j5 x0 q) (fun _ S w _ _ g=>let ⟨y,e1,e2,e3⟩:=g.2.2.2.2; ⟨S,y,e1,e2,e3⟩) ?_)
 intro y2
 refine o6 3 n5 (p.dot q) (fun _ S w g _ _ d=>(kx (al5 g d.2.1 d.1 hm hn hmn))) ?_
 intro r
 refine n9 (.one (.tp (p.dot q = 0))) rfl (fun _ S w g _ _ d=>(kx (D9 g d.1))) ?_
 exact j9 (.bool (tst (p.dot q = 0))) rfl (fun S w _ g _=>⟨rfl,g⟩)
theorem d64 {p q : T3} (ht : Tab w) (hS : Up S w) (o1 : u1.oneCell' = true) (o2 : u2.oneCell' = true) (h1 : (C0 u1 p).p S w) (h2 : (C0 u2 q).p S w) (hm : tl p 1000000) (hn : tl q 1000000) (hb : ad6 p q ≠ 0) :
  Pan prog 92 [u1,u2] w (R5 (ad6 p q)):=by
 refine U9 (E:=env) (S0:=S) (G:=((C0 u1 p).and (C0 u2 q))) (l:=[.one (.val u1),.one (.val u2)]) func92 rfl rfl rfl ⟨o1,o2,trivial⟩ rfl ⟨h1,h2⟩ ?_
 refine o7 (r8 u1 55 9 true (fun x0=>.one (.ag 9 x0)) (fun x0=>j5 x0 p) (fun _ S w _ _ g=>let ⟨y,e1,e2,e3⟩:=g.1; ⟨S,y,e1,e2,e3⟩) ?_)
 intro x
 refine o7 (r8 u2 55 9 true (fun x0=>.one (.ag 9 x0)) (fun x0=>j5 x0 q) (fun _ S w _ _ g=>let ⟨y,e1,e2,e3⟩:=g.2.2; ⟨S,y,e1,e2,e3⟩) ?_)
 intro y
 exact d36 ⟨c8,hS,l8⟩ (by kernel_rfl) (by kernel_rfl) (fun _ S w g d _ s t=>(kx (ap3 (bn8 (ht.to s) (A4 g) (Q5 0 55 [x,y] d (by kernel_rfl) (ce3 t.2.1 t.1) (show 2 ≤ maxLen by decide)) hm hn hb) s)))
def aj2 : List Value:=[.bool false,.slice none 0 0,.slice none 0 0,.bool false,.slice none 0 0,.slice none 0 0,.bool false,.slice none 0 0,.slice none 0 0]
theorem bt2 : ∀ v ∈ aj2,v.oneCell' = true:=by
 intro v hv
 simp only [aj2,List.mem_cons,List.not_mem_nil,or_false] at hv
 rcases hv with rfl | rfl | rfl | rfl | rfl | rfl | rfl | rfl | rfl <;> rfl
theorem b17 : GivesD prog 116 [.pointer (some ⟨g1,0,none⟩),.pointer (some ⟨g2,0,none⟩)] .returning w fun u' w'=>u' = .returning ∧ w' = w:=by
 refine J0 func116 rfl rfl rfl rfl rfl (.inl ⟨rfl,rfl,rfl⟩) ?_
 repeat (first | refine Z4 rfl ?_ | refine wW ?_ | refine wp_skip ?_ | refine wp_cond_false rfl ?_)
 exact ⟨[],rfl,rfl,rfl⟩
theorem cc1 {e : Value} (h1 : Blk w g1 55 cs1) (hl : cs1.length = 9) (h2 : Blk w g2 56 [e]) :
  GivesD prog 116 [.pointer (some ⟨g1,0,none⟩),.pointer (some ⟨g2,0,none⟩)] (.panicking (R5 E)) w fun u' w'=>settle u' = .returning ∧
   Keeps (fun k=>k ≠ g1 ∧ k ≠ g2) w w' ∧ Blk w' g1 55 aj2 ∧ Blk w' g2 56 [.int .i64 E]:=by
 have hne : g1 ≠ g2:=h1.ne h2 (by decide)
 refine J0 func116 rfl rfl rfl rfl rfl (.inr ⟨_,rfl,rfl,rfl⟩) ?_
 repeat (first | refine aj1 rfl ?_ | refine a54 rfl ?_ | refine wW ?_ | refine B4 rfl rfl ?_ | refine wp_cond_true rfl ?_)
 refine q9 (cs:=[.int .i64 0]) rfl ?_
 intro w1 g3 k1 hg3 hgs3
 have hl1:=h1.lt
 have hl2:=h2.lt
 refine F0 (us:=[.int .i64 E]) rfl (by conv=>(lhs; whnf)) rfl rfl hg3 rfl (fun v hv=>by rw [List.mem_singleton.1 hv]; rfl) ?_
 intro w2 k2 hg32
 repeat (first | refine a26 rfl ?_ | refine wW ?_ | refine b8 ?_ | refine wp_skip ?_ | refine wp_cond_false rfl ?_)
 refine q9 (cs:=aj2) rfl ?_
 intro w3 g5 k3 hg5 hgs5
 have k : Ext w w3:=(Keeps.past k1 k2 hgs3).trans k3
 have hg33:=hg32.to k3
 have hl3:=hg32.lt
 repeat refine wW ?_
 refine ba8 (R:=OneW g1 55 cs1 aj2) 4 OneW.trans OneW.drew (by kernel_rfl) (by kernel_rfl) ?_
 apply Q8
 ·intro x w1 k1 hd
  refine o9 rfl (hg5.wr k1.1 (by omega)) rfl ?_
  refine b7 ?_
  exact ap9 OneW.refl
 apply Q8
 ·intro x w1 k1 hd
  refine j4 rfl ?_
  refine b7 ?_
  exact ap9 OneW.refl
 apply Q8
 ·intro x w1 k1 hd
  refine d7 rfl (hg33.wr k1.1 (by omega)) rfl ?_
  refine b7 ?_
  exact ap9 OneW.refl
 refine Q8 (e:=EntR.of (fun v w=>Blk w g1 55 aj2) (fun v w w' h k=>k.2.2 h)) ?_ ?_
 ·intro x w1 k1 hd
  rcases k1.2.1 (.inl (h1.to k)) with hgx | hgx
  ·refine F0 (us:=aj2) rfl (by conv=>(lhs; whnf)) rfl rfl hgx hl bt2 ?_
   intro w12 k12 hg12
   exact b7 (an9 (OneW.wrote k12 hg12) hg12)
  refine F0 (us:=aj2) rfl (by conv=>(lhs; whnf)) rfl rfl hgx rfl bt2 ?_
  intro w12 k12 hg12
  exact b7 (an9 (OneW.wrote k12 hg12) hg12)
 refine bu5 (bx4 ?_)
 intro x w12 k12 hall
 have h14 : Blk w12 g1 55 aj2:=hall.1
 refine O4 (u:=.int .i64 E) rfl rfl ((h2.to k).wr k12.1 (fun e=>hne e.symm)) (show 0 < 1 by decide) rfl ?_
 intro w5 k5 h25
 repeat (first | refine b7 ?_)
 refine ⟨[],rfl,rfl,?_,h14.wr k5 hne,h25⟩
 exact ((Keeps.of k).trans (k12.1.mono fun i hi=>hi.1)).trans (k5.mono fun i hi=>hi.2)
theorem ap6 [ci : CallI prog F] {t : T3} (hS : Up S w)
  (h : ∀ S' w',Up S' w' → Ext w w' → (∀ k,S' k → S k) → (∀ k,k < w.heap.size → S k → S' k) → GivesE prog F cap w' (fun v w''=>Ext w' w'' ∧ TripV S' w'' v t ∧ Y) fun ch w''=>ch = R5 E ∧ Ext w' w'' ∧ Z) :
  Gives prog 53 [.func (.func F) #[] cap.toArray] w fun v' w'=>Ext w w' ∧ ((∃ x,v' = .tuple #[x,.int .i64 0] ∧ TripV S w' x t ∧ Y) ∨ (v' = .tuple #[.agg aj2.toArray,.int .i64 E] ∧ Z)):=by
 refine Y6 func53 rfl rfl rfl ?_
 refine bf0 ?_
 repeat (first | refine af9 ?_)
 refine q9 (cs:=aj2) rfl ?_
 intro w1 g1 k1 hg1 hgs1
 skip
 refine q9 (cs:=[.int .i64 0]) rfl ?_
 intro w2 g2 k2 hg2 hgs2
 have hgl:=hg1.lt
 have hgl2:=hg2.lt
 replace hg1:=hg1.to k2
 have k:=k1.trans k2
 have hk1:=k1.size
 have hk2:=k2.size
 have hS2 : Up (fun k=>S k ∧ k ≠ g1 ∧ k ≠ g2) w2:=fun i hi=>⟨hS i (by omega),by omega,by omega⟩
 have hc:=h (fun k=>S k ∧ k ≠ g1 ∧ k ≠ g2) w2 hS2 k (fun _ h=>h.1) (fun i hi g=>⟨g,by omega,by omega⟩)
 repeat refine wW ?_
 refine ac6 ?_
 refine bf2 ?_ (fun e a ρ w hm hq=>a34 hm hq)
 repeat refine wW ?_
 refine a17 (first:=[]) (cap:=cap) rfl hc rfl ?_ ?_
 ·rintro v3 w3 ⟨k3,hf,hy⟩
  obtain ⟨us,hv,hul,hu1⟩:=hf.ok
  skip
  refine F0 (us:=us) rfl (by conv=>(lhs; whnf)) (by rw [hv]; rfl) hul (hg1.to k3) rfl hu1 ?_
  intro w4 k4 hg4
  have hg24:=(hg2.to k3).wr k4 (by omega)
  refine O4 (u:=.int .i64 0) rfl rfl hg24 (show 0 < 1 by decide) rfl ?_
  intro w5 k5 hg5
  have hg45:=hg4.wr k5 (by omega)
  repeat refine wW ?_
  refine b17.mono ?_
  rintro u' w' ⟨rfl,rfl⟩
  refine ⟨rfl,[.agg us.toArray,.int .i64 0],⟨_,_,n8 hg45 hul,⟨_,_,W0 (by conv=>(lhs; whnf)) hg5,rfl,rfl⟩,rfl⟩,?_⟩
  refine ⟨((Keeps.past (k.trans k3) k4 (by omega)).past k5 (by omega)),.inl ⟨_,rfl,?_,hy⟩⟩
  rw [← hv]
  exact ((hf.keep (k4.mono fun i hi=>hi.2.1)).keep (k5.mono fun i hi=>hi.2.2)).mono fun i _ hi=>hi.1
 rintro ch w3 ⟨rfl,k3,hf⟩
 refine Q4 ?_
 refine (cc1 (hg1.to k3) rfl (hg2.to k3)).mono ?_
 rintro u' w' ⟨hu,k4,h1,h2⟩
 refine ⟨hu,[.agg aj2.toArray,.int .i64 E],⟨_,_,n8 h1 rfl,⟨_,_,W0 (by conv=>(lhs; whnf)) h2,rfl,rfl⟩,rfl⟩,?_⟩
 exact ⟨Keeps.later (k.trans k3) k4 (fun i hi _=>⟨by omega,by omega⟩),.inr ⟨rfl,hf⟩⟩
theorem Gives.toE {Φ : List PanicEntry → World → Prop} (h : Gives P f args w Ψ) : GivesE P f args w Ψ Φ:=
 Calls.mono h fun e w' ⟨v,he,hv⟩=>by subst he; exact hv
abbrev W6 (v : Value) (t : T3) (e : Int) : Gh:=⟨fun S w=>v = .tuple #[N6 v,.int .i64 e] ∧ TripV S w (N6 v) t,fun h k=>⟨h.1,h.2.keep k⟩,fun h k=>⟨h.1,h.2.mono k⟩⟩
theorem a19 {t : T3} {e : Int} (h : (W6 v t e).p S w) : (pr (.ag 9 (N6 v)) (.int .i64 e)).Ok 0 ∧ (pr (.ag 9 (N6 v)) (.int .i64 e)).den (fun _=>0) = v:=⟨bd0 h.2.ok trivial,h.1.symm⟩
theorem cq0 {t : T3} (h : (W6 v t 0).p S w) : (pr (.ag 9 (N6 v)) (.lit .i64 0)).Ok 0 ∧ (pr (.ag 9 (N6 v)) (.lit .i64 0)).den (fun _=>0) = v:=⟨bd0 h.2.ok trivial,h.1.symm⟩
theorem bi2 : TripV S w (.agg aj2.toArray) ⟨0,0,0⟩:=⟨_,_,_,rfl,F2,F2,F2⟩
theorem J7 {t : T3} (h : (ch7 u T (d6 (fun _=>0) [.ag 9 v])).p S w) (hv : TripV S w v t) : (C0 u t).p S w:=by
 obtain ⟨b,rfl,hs,hB⟩:=h
 rw [Y9] at hB
 exact ⟨v,hv.lies,⟨b,0,v.cells.toList.toArray,T,(0,0),rfl,hs,hB,by simp,by rw [List.drop_zero]; exact List.take_of_length_le (Nat.le_refl _)⟩,hv⟩
theorem J1 (h : (ch7 u T cs).p S w) : u.oneCell' = true:=by
 obtain ⟨b,rfl,_⟩:=h
 rfl
noncomputable def ad0 (p q : T3) : Int:=if ad6 p q = 0 then (if T3.Same p q then 61 else 0) else ad6 p q
noncomputable def a50 (p q : T3) : T3:=if ad0 p q = 0 then (p.cross q).normal else ⟨0,0,0⟩
theorem cp6 {p q : T3} (h : ad6 p q = 0) : M9 p = 0 ∧ M9 q = 0:=by
 unfold ad6 at h
 split at h
 ·exact ⟨‹_›,h⟩
 exact absurd h ‹_›
theorem de8 {p q : T3} (ht : Tab w) (hS : Up S w) (o1 : u1.oneCell' = true) (o2 : u2.oneCell' = true) (h1 : (C0 u1 p).p S w) (h2 : (C0 u2 q).p S w) (hm : tl p m) (hn : tl q n) (hmn : 2 * (m + n + 1) + 1 ≤ 3344) (hk : tl (p.cross q).normal k) (hk2 : k ≤ 3344) :
  Gives prog 53 [.func (.func 137) #[] #[u1,u2]] w fun v' w'=>Ext w w' ∧ (W6 v' (a50 p q) (ad0 p q)).p S w':=by
 have key : ∀ S' w',Up S' w' → Ext w w' → (∀ k,S' k → S k) → (∀ k,k < w.heap.size → S k → S' k) → GivesE prog 137 [u1,u2] w' (fun v w''=>Ext w' w'' ∧ TripV S' w'' v (a50 p q) ∧ ad0 p q = 0) fun ch w''=>ch = R5 (ad0 p q) ∧ Ext w' w'' ∧ ¬ ad0 p q = 0:=by
  intro S' w' hS' k' _ hs'
  have g1:=(C0 u1 p).keep ((C0 u1 p).mono h1 hs') (.of k')
  have g2:=(C0 u2 q).keep ((C0 u2 q).mono h2 hs') (.of k')
  by_cases hb : ad6 p q = 0
  ·obtain ⟨b1,b2⟩:=cp6 hb
   by_cases hs : T3.Same p q
   ·have e : ad0 p q = 61:=by unfold ad0; rw [if_pos hb,if_pos hs]
    exact (c60 (ht.to k') hS' o1 o2 g1 g2 hm hn hmn b1 b2 hs).mono (fun _ _ h=>h.elim) fun ch w'' h=>⟨by rw [e]; exact h.1,h.2,by rw [e]; decide⟩
   have e : ad0 p q = 0:=by unfold ad0; rw [if_pos hb,if_neg hs]
   have e2 : a50 p q = (p.cross q).normal:=by unfold a50; rw [if_pos e]
   exact Gives.toE ((c45 (ht.to k') hS' o1 o2 g1 g2 hm hn hmn hk hk2 b1 b2 hs).mono fun v w'' h=>⟨h.1,by rw [e2]; exact h.2,e⟩)
  have e : ad0 p q = ad6 p q:=by unfold ad0; rw [if_neg hb]
  exact (di3 (ht.to k') hS' o1 o2 g1 g2 (N3 hm (by omega)) (N3 hn (by omega)) hb).mono (fun _ _ h=>h.elim) fun ch w'' h=>⟨by rw [e]; exact h.1,h.2,by rw [e]; exact hb⟩
 refine (ap6 (F:=137) (cap:=[u1,u2]) hS key).mono ?_
 rintro v' w' ⟨k',⟨x,rfl,h,e⟩ | ⟨rfl,e⟩⟩
 ·exact ⟨k',by rw [e]; rfl,h⟩
 exact ⟨k',rfl,by unfold a50; rw [if_neg e]; exact bi2⟩
theorem dm9 {p q : T3} (ht : Tab w) (hS : Up S w) (hp : TripV S w vp p) (hq : TripV S w vq q) (hm : tl p m) (hn : tl q n) (hmn : 2 * (m + n + 1) + 1 ≤ 3344) (hk : tl (p.cross q).normal k) (hk2 : k ≤ 3344) :
  Gives prog 88 [vp,vq] w fun v' w'=>Ext w w' ∧ (W6 v' (a50 p q) (ad0 p q)).p S w':=by
 refine n4 (E:=env) (S0:=S) (G:=((j5 vp p).and (j5 vq q))) (l:=[.one (.ag 9 vp),.one (.ag 9 vq)]) func88 rfl rfl rfl ⟨hp.ok,hq.ok,trivial⟩ rfl ⟨hp,hq⟩ ?_
 refine o7 (N9 0 55 ([.ag 9 vp]) (fun u1=>?_))
 refine o7 (N9 1 55 ([.ag 9 vq]) (fun u2=>?_))
 refine ah1 (fun x0=>pr (.ag 9 (N6 x0)) (.int .i64 (ad0 p q))) (fun x0=>W6 x0 (a50 p q) (ad0 p q)) (fun _ _ _ h=>a19 h) (fun _ S w g _ d s=>(kx (de8 (ht.to d) g (J1 s.2.1) (J1 s.1) (J7 s.2.1 s.2.2.1) (J7 s.1 s.2.2.2) hm hn hmn hk hk2))) ?_
 intro r
 exact j9 (.tuple #[N6 r,.int .i64 (ad0 p q)]) rfl (fun S w g d s=>⟨d,rfl,s.1.2.mono fun k _ hk=>g k hk⟩)
theorem b74 : GivesD prog 142 [.pointer (some ⟨g1,0,none⟩),.pointer (some ⟨g2,0,none⟩)] .returning w fun u' w'=>u' = .returning ∧ w' = w:=by
 refine J0 func142 rfl rfl rfl rfl rfl (.inl ⟨rfl,rfl,rfl⟩) ?_
 repeat (first | refine Z4 rfl ?_ | refine wW ?_ | refine wp_skip ?_ | refine wp_cond_false rfl ?_)
 exact ⟨[],rfl,rfl,rfl⟩
theorem b81 {e1 e : Value} (h1 : Blk w g1 4 [e1]) (h2 : Blk w g2 56 [e]) :
  GivesD prog 142 [.pointer (some ⟨g1,0,none⟩),.pointer (some ⟨g2,0,none⟩)] (.panicking (R5 E)) w fun u' w'=>settle u' = .returning ∧
   Keeps (fun k=>k ≠ g1 ∧ k ≠ g2) w w' ∧ Blk w' g1 4 [.bool false] ∧ Blk w' g2 56 [.int .i64 E]:=by
 have hne : g1 ≠ g2:=h1.ne h2 (by decide)
 refine J0 func142 rfl rfl rfl rfl rfl (.inr ⟨_,rfl,rfl,rfl⟩) ?_
 repeat (first | refine aj1 rfl ?_ | refine a54 rfl ?_ | refine wW ?_ | refine B4 rfl rfl ?_ | refine wp_cond_true rfl ?_)
 refine q9 (cs:=[.int .i64 0]) rfl ?_
 intro w1 g3 k1 hg3 hgs3
 have hl1:=h1.lt
 have hl2:=h2.lt
 refine F0 (us:=[.int .i64 E]) rfl (by conv=>(lhs; whnf)) rfl rfl hg3 rfl (fun v hv=>by rw [List.mem_singleton.1 hv]; rfl) ?_
 intro w2 k2 hg32
 have k : Ext w w2:=Keeps.past k1 k2 hgs3
 have hg33:=hg32
 repeat (first | refine a26 rfl ?_ | refine wW ?_ | refine b8 ?_ | refine wp_skip ?_ | refine wp_cond_false rfl ?_)
 have hl3:=hg32.lt
 refine ba8 (R:=OneW g1 4 [e1] [.bool false]) 4 OneW.trans OneW.drew (by kernel_rfl) (by kernel_rfl) ?_
 apply Q8
 ·intro x w1 k1 hd
  refine c38 rfl ?_
  refine b7 ?_
  exact ap9 OneW.refl
 apply Q8
 ·intro x w1 k1 hd
  refine j4 rfl ?_
  refine b7 ?_
  exact ap9 OneW.refl
 apply Q8
 ·intro x w1 k1 hd
  refine d7 rfl (hg33.wr k1.1 (by omega)) rfl ?_
  refine b7 ?_
  exact ap9 OneW.refl
 refine Q8 (e:=EntR.of (fun v w=>Blk w g1 4 [.bool false]) (fun v w w' h k=>k.2.2 h)) ?_ ?_
 ·intro x w1 k1 hd
  rcases k1.2.1 (.inl (h1.to k)) with hgx | hgx
  ·refine O4 (u:=.bool false) rfl rfl hgx (show 0 < 1 by decide) rfl ?_
   intro w12 k12 hg12
   exact b7 (an9 (OneW.wrote k12 hg12) hg12)
  refine O4 (u:=.bool false) rfl rfl hgx (show 0 < 1 by decide) rfl ?_
  intro w12 k12 hg12
  exact b7 (an9 (OneW.wrote k12 hg12) hg12)
 refine bu5 (bx4 ?_)
 intro x w12 k12 hall
 have h14 : Blk w12 g1 4 [.bool false]:=hall.1
 refine O4 (u:=.int .i64 E) rfl rfl ((h2.to k).wr k12.1 (fun e=>hne e.symm)) (show 0 < 1 by decide) rfl ?_
 intro w5 k5 h25
 repeat (first | refine b7 ?_)
 refine ⟨[],rfl,rfl,?_,h14.wr k5 hne,h25⟩
 exact ((Keeps.of k).trans (k12.1.mono fun i hi=>hi.1)).trans (k5.mono fun i hi=>hi.2)
theorem ce4 [ci : CallI prog F] {b : Bool} (hS : Up S w)
  (h : ∀ S' w',Up S' w' → Ext w w' → (∀ k,S' k → S k) → (∀ k,k < w.heap.size → S k → S' k) → GivesE prog F cap w' (fun v w''=>Ext w' w'' ∧ v = .bool b ∧ Y) fun ch w''=>ch = R5 E ∧ Ext w' w'' ∧ Z) :
  Gives prog 91 [.func (.func F) #[] cap.toArray] w fun v' w'=>Ext w w' ∧ ((v' = .tuple #[.bool b,.int .i64 0] ∧ Y) ∨ (v' = .tuple #[.bool false,.int .i64 E] ∧ Z)):=by
 refine Y6 func91 rfl rfl rfl ?_
 refine bf0 ?_
 repeat (first | refine af9 ?_)
 refine q9 (cs:=[.bool false]) rfl ?_
 intro w1 g1 k1 hg1 hgs1
 skip
 refine q9 (cs:=[.int .i64 0]) rfl ?_
 intro w2 g2 k2 hg2 hgs2
 have hgl:=hg1.lt
 have hgl2:=hg2.lt
 replace hg1:=hg1.to k2
 have k:=k1.trans k2
 have hk1:=k1.size
 have hk2:=k2.size
 have hS2 : Up (fun k=>S k ∧ k ≠ g1 ∧ k ≠ g2) w2:=fun i hi=>⟨hS i (by omega),by omega,by omega⟩
 have hc:=h (fun k=>S k ∧ k ≠ g1 ∧ k ≠ g2) w2 hS2 k (fun _ h=>h.1) (fun i hi g=>⟨g,by omega,by omega⟩)
 repeat refine wW ?_
 refine ac6 ?_
 refine bf2 ?_ (fun e a ρ w hm hq=>a34 hm hq)
 repeat refine wW ?_
 refine a17 (first:=[]) (cap:=cap) rfl hc rfl ?_ ?_
 ·rintro v3 w3 ⟨k3,rfl,hy⟩
  skip
  refine O4 (u:=.bool b) rfl rfl (hg1.to k3) (show 0 < 1 by decide) rfl ?_
  intro w4 k4 hg4
  have hg24:=(hg2.to k3).wr k4 (by omega)
  refine O4 (u:=.int .i64 0) rfl rfl hg24 (show 0 < 1 by decide) rfl ?_
  intro w5 k5 hg5
  have hg45:=hg4.wr k5 (by omega)
  repeat refine wW ?_
  refine b74.mono ?_
  rintro u' w' ⟨rfl,rfl⟩
  refine ⟨rfl,[.bool b,.int .i64 0],⟨_,_,W0 (by conv=>(lhs; whnf)) hg45,⟨_,_,W0 (by conv=>(lhs; whnf)) hg5,rfl,rfl⟩,rfl⟩,?_⟩
  exact ⟨((Keeps.past (k.trans k3) k4 (by omega)).past k5 (by omega)),.inl ⟨rfl,hy⟩⟩
 rintro ch w3 ⟨rfl,k3,hf⟩
 refine Q4 ?_
 refine (b81 (hg1.to k3) (hg2.to k3)).mono ?_
 rintro u' w' ⟨hu,k4,h1,h2⟩
 refine ⟨hu,[.bool false,.int .i64 E],⟨_,_,W0 (by conv=>(lhs; whnf)) h1,⟨_,_,W0 (by conv=>(lhs; whnf)) h2,rfl,rfl⟩,rfl⟩,?_⟩
 exact ⟨Keeps.later (k.trans k3) k4 (fun i hi _=>⟨by omega,by omega⟩),.inr ⟨rfl,hf⟩⟩
def OnP (p q : T3) : Prop:=ad6 p q = 0 ∧ p.dot q = 0
theorem dx7 {p q : T3} (ht : Tab w) (hS : Up S w) (o1 : u1.oneCell' = true) (o2 : u2.oneCell' = true) (h1 : (C0 u1 p).p S w) (h2 : (C0 u2 q).p S w) (hm : tl p m) (hn : tl q n) (hmn : 3 * (m + n + 1) + 1 ≤ 3344) :
  Gives prog 91 [.func (.func 92) #[] #[u1,u2]] w fun v' w'=>Ext w w' ∧ v' = .tuple #[.bool (tst (OnP p q)),.int .i64 (ad6 p q)]:=by
 have key : ∀ S' w',Up S' w' → Ext w w' → (∀ k,S' k → S k) → (∀ k,k < w.heap.size → S k → S' k) → GivesE prog 92 [u1,u2] w' (fun v w''=>Ext w' w'' ∧ v = .bool (tst (OnP p q)) ∧ ad6 p q = 0) fun ch w''=>ch = R5 (ad6 p q) ∧ Ext w' w'' ∧ ¬ ad6 p q = 0:=by
  intro S' w' hS' k' _ hs'
  have g1:=(C0 u1 p).keep ((C0 u1 p).mono h1 hs') (.of k')
  have g2:=(C0 u2 q).keep ((C0 u2 q).mono h2 hs') (.of k')
  by_cases hb : ad6 p q = 0
  ·obtain ⟨b1,b2⟩:=cp6 hb
   exact Gives.toE ((dw3 (ht.to k') hS' o1 o2 g1 g2 hm hn hmn b1 b2).mono fun v w'' h=>⟨h.2,by rw [h.1]; congr 1; exact congrArg tst (propext ⟨fun e=>⟨hb,e⟩,fun e=>e.2⟩),hb⟩)
  exact (d64 (ht.to k') hS' o1 o2 g1 g2 (N3 hm (by omega)) (N3 hn (by omega)) hb).mono (fun _ _ h=>h.elim) fun ch w'' h=>⟨h.1,h.2,hb⟩
 refine (ce4 (F:=92) (cap:=[u1,u2]) hS key).mono ?_
 rintro v' w' ⟨k',⟨rfl,e⟩ | ⟨rfl,e⟩⟩
 ·exact ⟨k',by rw [e]⟩
 exact ⟨k',by rw [j2 fun h : OnP p q=>e h.1]⟩
theorem fc8 {p q : T3} (ht : Tab w) (hS : Up S w) (hp : TripV S w vp p) (hq : TripV S w vq q) (hm : tl p m) (hn : tl q n) (hmn : 3 * (m + n + 1) + 1 ≤ 3344) :
  Gives prog 31 [vp,vq] w fun v' w'=>v' = .tuple #[.bool (tst (OnP p q)),.int .i64 (ad6 p q)] ∧ Ext w w':=by
 refine n4 (E:=env) (S0:=S) (G:=((j5 vp p).and (j5 vq q))) (l:=[.one (.ag 9 vp),.one (.ag 9 vq)]) func31 rfl rfl rfl ⟨hp.ok,hq.ok,trivial⟩ rfl ⟨hp,hq⟩ ?_
 refine o7 (N9 0 55 ([.ag 9 vp]) (fun u1=>?_))
 refine o7 (N9 1 55 ([.ag 9 vq]) (fun u2=>?_))
 refine n9 (pr (.tp (OnP p q)) (.int .i64 (ad6 p q))) rfl (fun _ S w g _ d s=>(kx ((dx7 (ht.to d) g (J1 s.2.1) (J1 s.1) (J7 s.2.1 s.2.2.1) (J7 s.1 s.2.2.2) hm hn hmn).mono fun _ _ h=>⟨h.2,h.1⟩))) ?_
 exact j9 (.tuple #[.bool (tst (OnP p q)),.int .i64 (ad6 p q)]) rfl (fun S w _ g _=>⟨rfl,g⟩)
def T3.at (l : List T3) (i : Nat) : T3:=l.getD i ⟨0,0,0⟩
theorem T3.at_get {l : List T3} (h : i < l.length) : l[i]? = some (T3.at l i):=T3.getD_at h
variable {p r t : T3}
theorem db3 {q : T3} (hS : Up S w) (hp : TripV S w vp p) (hq : TripV S w vq q) (hr : TripV S w vr r) (hm : tl p m) (hn : tl q m) (hk : tl r m) (hmm : 3 * (2 * (m + m) + 1 + m + 1) + 1 ≤ 3344)
  (h1 : ¬ T3.Same p q) (h2 : ¬ T3.Same p r) (h3 : ¬ T3.Same q r) (h4 : T3.Flat p q r) :
  Gives prog 140 [vp,vq,vr] w fun v' w'=>v' = .tuple #[] ∧ Ext w w':=by
 refine n4 (E:=env) (S0:=S) (G:=((j5 vp p).and ((j5 vq q).and (j5 vr r)))) (l:=[.one (.ag 9 vp),.one (.ag 9 vq),.one (.ag 9 vr)]) func140 rfl rfl rfl ⟨hp.ok,hq.ok,hr.ok,trivial⟩ rfl ⟨hp,hq,hr⟩ ?_
 refine n9 (.one (.tp (T3.Same p q))) rfl (fun _ S w g _ _ d=>(kx (G6 g d.1 d.2.1 hm hn (by omega)))) ?_
 refine Q1 (p:=T3.Same p q) 9 h1 ?_
 refine n9 (.one (.tp (T3.Same p r))) rfl (fun _ S w g _ _ d=>(kx (G6 g d.1 d.2.2 hm hk (by omega)))) ?_
 refine Q1 (p:=T3.Same p r) 14 h2 ?_
 refine n9 (.one (.tp (T3.Same q r))) rfl (fun _ S w g _ _ d=>(kx (G6 g d.2.1 d.2.2 hn hk (by omega)))) ?_
 refine Q1 (p:=T3.Same q r) 19 h3 ?_
 refine n9 (.one (.tp (T3.Flat p q r))) rfl (fun _ S w g _ _ d=>(kx (bv4 g d.1 d.2.1 d.2.2 hm hn hk hmm))) ?_
 refine as7 (p:=¬ T3.Flat p q r) (fun h=>h h4) ?_
 exact j9 (.tuple #[]) rfl (fun S w _ g _=>⟨rfl,g⟩)
theorem cl8 (h : (bG (fun x=>qG x q) true v).p S w) : (pr (.ag 4 (O3 v 0)) (.bb true)).Ok 0 ∧ (pr (.ag 4 (O3 v 0)) (.bb true)).den (fun _=>0) = v:=⟨bd0 h.2.ok trivial,h.1.symm⟩
theorem QV.lies (h : QV S w v q) : P6 true 4 v:=by
 obtain ⟨m,b,rfl,_⟩:=h
 exact a56 [_,_,_,_]
abbrev qF (x : Value) (q : Rat) : Gh:=qG x q
abbrev qsG (v : Value) (l : List Rat) : Gh:=cv5 true 4 qF v l
theorem getD_at (h : j < l.length) : l[j]? = some (l.getD j 0):=by rw [List.getD_eq_getElem?_getD,List.getElem?_eq_getElem h]; rfl
theorem ap5 : q.num.sign = 0 ↔ q = 0:=by rw [Int.sign_eq_zero_iff_zero]; exact Rat.num_eq_zero
theorem df6 {p : Nat} (hS : Up S w) (h : SeqV true 4 qF S w v l) (hp : U4 ar5 l 0 = (p : Int)) (hpl : p < l.length) (hp0 : ar5 (l.getD p 0)) :
  Gives prog 110 [v] w fun v' w'=>Ext w w' ∧ (bG (fun x=>qG x (l.getD p 0)) true v').p S w':=by
 have hmx:=h.len_le
 unfold maxLen at hmx
 refine n4 (E:=env) (S0:=S) (G:=(qsG v l)) (l:=[.one (.sl v l.length)]) func110 rfl rfl rfl ⟨h.sl,trivial⟩ rfl h ?_
 refine ac0 (ι:=Nat) [(3,20)] (fun j=>[(4,.one (.int .i64 (j : Int)))]) (fun _=>[]) (fun _ g=>g) (fun j=>j ≤ p ∧ U4 ar5 (l.drop j) j = (p : Int)) (fun j=>p - j) 0 ⟨c8,hS,l8⟩ (by kernel_rfl) (by kernel_rfl) (fun _=>(by kernel_rfl)) (fun _=>(by kernel_rfl)) (by kernel_rfl) (⟨Nat.zero_le _,hp⟩) (fun S w _ _=>⟨z8 rfl,fun p hp=>by cases hp⟩) (fun S w _ g=>g) (fun hso j hj=>?_)
 have hlt' : j < l.length:=by omega
 have hx0:=getD_at hlt'
 obtain ⟨d1,d2⟩:=bt1 (p:=ar5) hlt'
 refine am0 (p:=(j : Int) < (l.length : Int)) (by omega) ?_
 refine o7 (bl3 v l.length (j : Int) 30 4 (fun u0=>atG true 4 (fun x0=>qG x0 (l.getD j 0)) u0) (by kernel_rfl) ⟨c8,hS,l8⟩ (fun _ S w _ _ g=>g.el rfl rfl hx0) ?_)
 intro u_1
 refine o7 (bg8 u_1 30 4 true (fun x0=>.one (.ag 4 x0)) (fun x0=>qG x0 (l.getD j 0)) (by kernel_rfl) ⟨c8,hS,l8⟩ (fun S w _ g=>g.1) (fun _ _ _ h=>⟨h.ok,rfl⟩) ?_)
 intro x
 refine n9 (.one (.int .i64 (l.getD j 0).num.sign)) rfl (fun _ S w _ _ _ g=>(kx (ap0 g.1))) ?_
 refine z7 (p:=¬ (l.getD j 0).num.sign = 0) (fun hs=>?_) (fun hs=>?_)
 ·have hn : ar5 (l.getD j 0):=fun e=>hs (ap5.2 e)
  have e : j = p:=by have:=d1 hn; rw [hj.2] at this; omega
  subst e
  refine o7 (bl3 v l.length (j : Int) 30 4 (fun u0=>atG true 4 (fun x0=>qG x0 (l.getD j 0)) u0) (by kernel_rfl) ⟨c8,hS,l8⟩ (fun _ S w _ _ g=>g.2.2.el rfl rfl hx0) ?_)
  intro u_2
  refine o7 (bg8 u_2 30 4 true (fun x0=>.one (.ag 4 x0)) (fun x0=>qG x0 (l.getD j 0)) (by kernel_rfl) ⟨c8,hS,l8⟩ (fun S w _ g=>g.1) (fun _ _ _ h=>⟨h.ok,rfl⟩) ?_)
  intro y
  refine al7 ?_
  exact j9 (.tuple #[y,.bool true]) rfl (fun S w g d s=>⟨d,rfl,s.1.mono fun k _ hk=>g k hk⟩)
 have hn : ¬ ar5 (l.getD j 0):=fun e=>e (ap5.1 (Classical.not_not.1 hs))
 have e : ¬ j = p:=fun e=>hn (by rw [e]; exact hp0)
 refine P9 (ps:=[InR .i64 ((j : Int) + 1)]) (by simp only [I3,InR,and_true]; omega) ?_
 exact ac7 (j + 1) ⟨c8,hS,l8⟩ hso (by kernel_rfl) (by kernel_rfl) (fun _=>(by kernel_rfl)) (fun _=>(by kernel_rfl)) (by kernel_rfl) (⟨by omega,by rw [← d2 hn]; exact hj.2⟩) (by omega) (fun S w _ _=>⟨z8 rfl,fun p hp=>by cases hp⟩) (fun S w _ g=>g.2.2)
def b83 : Value:=.agg #[.bool false,.slice none 0 0,.bool false,.slice none 0 0]
theorem c49 (hS : Up S w) (h : SeqV true 4 qF S w v l) (hn : ah4 l) :
  Gives prog 110 [v] w fun v' w'=>v' = .tuple #[b83,.bool false] ∧ Ext w w':=by
 have hmx:=h.len_le
 unfold maxLen at hmx
 refine n4 (E:=env) (S0:=S) (G:=(qsG v l)) (l:=[.one (.sl v l.length)]) func110 rfl rfl rfl ⟨h.sl,trivial⟩ rfl h ?_
 refine ac0 (ι:=Nat) [(3,20)] (fun j=>[(4,.one (.int .i64 (j : Int)))]) (fun _=>[]) (fun _ g=>g) (fun j=>j ≤ l.length) (fun j=>l.length - j) 0 ⟨c8,hS,l8⟩ (by kernel_rfl) (by kernel_rfl) (fun _=>(by kernel_rfl)) (fun _=>(by kernel_rfl)) (by kernel_rfl) (Nat.zero_le _) (fun S w _ _=>⟨z8 rfl,fun p hp=>by cases hp⟩) (fun S w _ g=>g) (fun hso j hj=>?_)
 refine z7 (p:=(j : Int) < (l.length : Int)) (fun hlt=>?_) (fun hlt=>?_)
 ·have hlt' : j < l.length:=by omega
  have hx0:=getD_at hlt'
  refine o7 (bl3 v l.length (j : Int) 30 4 (fun u0=>atG true 4 (fun x0=>qG x0 (l.getD j 0)) u0) (by kernel_rfl) ⟨c8,hS,l8⟩ (fun _ S w _ _ g=>g.el rfl rfl hx0) ?_)
  intro u_1
  refine o7 (bg8 u_1 30 4 true (fun x0=>.one (.ag 4 x0)) (fun x0=>qG x0 (l.getD j 0)) (by kernel_rfl) ⟨c8,hS,l8⟩ (fun S w _ g=>g.1) (fun _ _ _ h=>⟨h.ok,rfl⟩) ?_)
  intro x
  refine n9 (.one (.int .i64 (l.getD j 0).num.sign)) rfl (fun _ S w _ _ _ g=>(kx (ap0 g.1))) ?_
  refine as7 (p:=¬ (l.getD j 0).num.sign = 0) (fun e=>hn ⟨l.getD j 0,List.mem_of_getElem? hx0,fun g=>e (ap5.2 g)⟩) ?_
  refine P9 (ps:=[InR .i64 ((j : Int) + 1)]) (by simp only [I3,InR,and_true]; omega) ?_
  exact ac7 (j + 1) ⟨c8,hS,l8⟩ hso (by kernel_rfl) (by kernel_rfl) (fun _=>(by kernel_rfl)) (fun _=>(by kernel_rfl)) (by kernel_rfl) (by omega) (by omega) (fun S w _ _=>⟨z8 rfl,fun p hp=>by cases hp⟩) (fun S w _ g=>g.2.2)
 refine al7 ?_
 exact j9 (.tuple #[b83,.bool false]) rfl (fun S w _ g _=>⟨rfl,g⟩)
abbrev nzG (v : Value) (n : Nat) : Gh:=⟨fun S w=>s5 S 3 .i64 w v n,fun h k=>h.keep k,fun h k=>h.mono k⟩
theorem cx6 (hS : Up S w) (h : QV S w v q) (hl : rl q 1000000) :
  Gives prog 155 [v,.int .i64 40] w fun v' w'=>v' = .bool (tst (aa6 q)) ∧ Ext w w':=by
 obtain ⟨m,b,rfl,hm,hb⟩:=h
 refine n4 (E:=env) (S0:=S) (G:=((nzG m q.num.natAbs).and (nzG b q.den))) (l:=[.agg [.tp (q.num < 0),.val m,.tp ((q.den : Int) < 0),.val b],.one (.lit .i64 40)]) func155 rfl rfl rfl ⟨I1 ⟨trivial,hm.one,trivial,hb.one,trivial⟩,trivial,trivial⟩ rfl ⟨hm,hb⟩ ?_
 refine n9 (.one (.int .i64 (Lib.nDigits q.num.natAbs : Nat))) rfl (fun _ S w _ _ _ g=>(kx (da9 g.1 (Nat.le_trans hl.1 (by decide))))) ?_
 refine O8 (p:=(40 : Int) < ((Lib.nDigits q.num.natAbs : Nat) : Int)) 11 (fun h4=>?_) (fun h4=>?_)
 ·exact j9 (.bool true) rfl (fun S w _ g _=>⟨by rw [j6 (show aa6 q from .inl (by omega))],g⟩)
 refine n9 (.one (.int .i64 (Lib.nDigits q.den : Nat))) rfl (fun _ S w _ _ _ g=>(kx (da9 g.2 (Nat.le_trans (show dl q.den ≤ 1000000 from hl.2) (by decide))))) ?_
 exact j9 (.bool (tst ((40 : Int) < ((Lib.nDigits q.den : Nat) : Int)))) rfl (fun S w _ g _=>⟨by rw [show aa6 q = ((40 : Int) < ((Lib.nDigits q.den : Nat) : Int)) from propext ⟨fun h=>by rcases h with h | h <;> omega,fun h=>.inr (by omega)⟩],g⟩)
theorem be7 (hS : Up S w) (h : SeqV true 4 qF S w v l) (hl : ∀ x ∈ l,rl x 1000000) :
  Gives prog 113 [v] w fun v' w'=>v' = .bool (tst (am8 l)) ∧ Ext w w':=by
 have hmx:=h.len_le
 unfold maxLen at hmx
 refine n4 (E:=env) (S0:=S) (G:=(qsG v l)) (l:=[.one (.sl v l.length)]) func113 rfl rfl rfl ⟨h.sl,trivial⟩ rfl h ?_
 refine ac0 (ι:=Nat) [(2,14)] (fun j=>[(3,.one (.int .i64 (j : Int)))]) (fun _=>[]) (fun _ g=>g) (fun j=>j ≤ l.length ∧ ∀ i,i < j → ¬ aa6 (l.getD i 0)) (fun j=>l.length - j) 0 ⟨c8,hS,l8⟩ (by kernel_rfl) (by kernel_rfl) (fun _=>(by kernel_rfl)) (fun _=>(by kernel_rfl)) (by kernel_rfl) (⟨Nat.zero_le _,fun _ h=>absurd h (Nat.not_lt_zero _)⟩) (fun S w _ _=>⟨z8 rfl,fun p hp=>by cases hp⟩) (fun S w _ g=>g) (fun hso j hj=>?_)
 refine z7 (p:=(j : Int) < (l.length : Int)) (fun hlt=>?_) (fun hlt=>?_)
 ·have hlt' : j < l.length:=by omega
  have hx0:=getD_at hlt'
  have hm:=List.mem_of_getElem? hx0
  refine o7 (bl3 v l.length (j : Int) 30 4 (fun u0=>atG true 4 (fun x0=>qG x0 (l.getD j 0)) u0) (by kernel_rfl) ⟨c8,hS,l8⟩ (fun _ S w _ _ g=>g.el rfl rfl hx0) ?_)
  intro u_1
  refine o7 (bg8 u_1 30 4 true (fun x0=>.one (.ag 4 x0)) (fun x0=>qG x0 (l.getD j 0)) (by kernel_rfl) ⟨c8,hS,l8⟩ (fun S w _ g=>g.1) (fun _ _ _ h=>⟨h.ok,rfl⟩) ?_)
  intro x
  refine n9 (.one (.tp (aa6 (l.getD j 0)))) rfl (fun _ S w g _ _ d=>(kx (cx6 g d.1 (hl _ hm)))) ?_
  refine z7 (p:=aa6 (l.getD j 0)) (fun hlr=>?_) (fun hlr=>?_)
  ·refine al7 ?_
   exact j9 (.bool true) rfl (fun S w _ g _=>⟨by rw [j6 (show am8 l from ⟨_,hm,hlr⟩)],g⟩)
  refine P9 (ps:=[InR .i64 ((j : Int) + 1)]) (by simp only [I3,InR,and_true]; omega) ?_
  exact ac7 (j + 1) ⟨c8,hS,l8⟩ hso (by kernel_rfl) (by kernel_rfl) (fun _=>(by kernel_rfl)) (fun _=>(by kernel_rfl)) (by kernel_rfl) (⟨by omega,fun i hi=>(Nat.lt_or_ge i j).elim (fun h=>hj.2 i h) fun h=>(by have e : i = j:=(by omega); rw [e]; exact hlr)⟩) (by omega) (fun S w _ _=>⟨z8 rfl,fun p hp=>by cases hp⟩) (fun S w _ g=>g.2.2)
 refine al7 ?_
 exact j9 (.bool false) rfl (fun S w hs hw hG=>⟨by rw [j2 fun g : am8 l=>(let ⟨x,hx,hr⟩:=g; (by obtain ⟨i,hi,rfl⟩:=List.mem_iff_getElem.1 hx; exact hj.2 i (by omega) (by rw [List.getD_eq_getElem?_getD,List.getElem?_eq_getElem hi]; exact hr)))],hw⟩)
theorem ck6 : (a42 a b c).cells.toList = A7 [a,b,c]:=by
 simp [a42,SV.den,d6,Ch.cells,Value.cells,A7]
theorem d77 {F : Value → α → Gh} {l : List α} (h : ElsV g s F S w vs l) (hu : At S w u (A7 vs)) (hm : l.length ≤ maxLen) :
  ∃ b k,u = .pointer (some ⟨b,k,none⟩) ∧ SeqV g s F S w (.slice (some ⟨b,k,none⟩) l.length l.length) l:=by
 obtain ⟨b,o,arr,T,fr,h1,h2,h3,h4,h5⟩:=hu
 have hl:=Z3 h.lies
 rw [h.len] at hl
 rw [hl] at h4 h5
 exact ⟨b,o,h1,⟨T,vs,h.len,h.lies,⟨hl,.inr ⟨b,o,l.length,arr,fr,rfl,Nat.le_refl _,hm,h2,h3,h4,h5⟩⟩,h.el⟩⟩
abbrev cm9 (x : Value) (t : T3) : Gh:=l7 x t
abbrev dz4 (v : Value) (l : List T3) : Gh:=cv5 true 12 cm9 v l
theorem QV.okc (h : QV S w v q) : (Ch.ag 4 v).Ok m:=h.ok
theorem mkRat_one (a : Int) : mkRat (a * (1 : Int).sign) (1 : Int).natAbs = (a : Rat):=by
 rw [show (1 : Int).sign = 1 from rfl,Int.mul_one,show (1 : Int).natAbs = 1 from rfl]
 rw [Rat.mkRat_one]
theorem J2 {a : Int} (hS : Up S w) (h0 : -9223372036854775808 ≤ a) (h1 : a ≤ 9223372036854775807) :
  Gives prog 45 [.int .i64 a,.int .i64 1] w fun v' w'=>Ext w w' ∧ QV S w' v' (a : Rat):=by
 have h:=cr4 (b:=1) hS h0 h1 (by decide) (by decide) (by decide) (G9 (k:=3) (by omega)) (G9 (k:=3) (by decide))
 rwa [mkRat_one] at h
theorem Z5 (hS : Up S w) : Gives prog 45 [.int .i64 0,.int .i64 1] w fun v' w'=>Ext w w' ∧ QV S w' v' (0 : Rat):=J2 (a:=0) hS (by decide) (by decide)
theorem d88 (n : Nat) : rl (0 : Rat) (n + 1):=⟨Nat.le_trans (G9 (k:=0) (show 0 < 1000000000 ^ 0 by decide)) (Nat.zero_le _),Nat.le_trans (G9 (k:=1) (show 1 < 1000000000 ^ 1 by decide)) (by omega)⟩
theorem fe8 (p q : T3) : 0 + p.x * q.x + p.y * q.y + p.z * q.z = p.dot q:=by unfold T3.dot; grind
theorem S7 {q : T3} (hS : Up S w) (hp : QTripV S w vp p) (hq : QTripV S w vq q) (hm : tl p m) (hn : tl q n) (hmn : m + n ≤ 1000000) :
  Gives prog 51 [vp,vq] w fun v' w'=>Ext w w' ∧ QV S w' v' (p.dot q):=by
 obtain ⟨a1,b1,c1,rfl,ha1,hb1,hc1⟩:=hp
 obtain ⟨a2,b2,c2,rfl,ha2,hb2,hc2⟩:=hq
 refine n4 (E:=env) (S0:=S) (G:=((qG a1 p.x).and ((qG b1 p.y).and ((qG c1 p.z).and ((qG a2 q.x).and ((qG b2 q.y).and (qG c2 q.z))))))) (l:=[.agg [.ag 4 a1,.ag 4 b1,.ag 4 c1],.agg [.ag 4 a2,.ag 4 b2,.ag 4 c2]]) func51 rfl rfl rfl ⟨I1 ⟨ha1.okc,hb1.okc,hc1.okc,trivial⟩,I1 ⟨ha2.okc,hb2.okc,hc2.okc,trivial⟩,trivial⟩ rfl ⟨ha1,hb1,hc1,ha2,hb2,hc2⟩ ?_
 refine o6 4 qG (0 : Rat) (fun _ S w g _ _ _=>(kx (Z5 g))) ?_
 intro z
 refine i1 ?_
 refine a8 9 ?_
 refine a6 7 ?_
 refine f4 4 qG (p.x * q.x) (fun _ _ S w g _ _ d _=>(kx (s8 g d.2.1 d.2.2.2.2.1 (f5 hm.1) (f5 hn.1)))) ?_
 refine f4 4 qG (0 + p.x * q.x) (fun _ g S w d _ _ s t=>(kx (af7 d s.1 (j8 t 7 : (qG (g 7) (p.x * q.x)).p S w) (E7 (d88 1) (by decide)) (f5 (r5 hm.1 hn.1))))) ?_
 refine b6 1 (fun g d=>(qG (d 8) (0 + p.x * q.x)).and g) (fun g _=>(by kernel_rfl)) ?_
 intro η_1
 refine a8 9 ?_
 refine a6 7 ?_
 refine f4 4 qG (p.y * q.y) (fun _ _ S w g _ _ d _=>(kx (s8 g d.2.2.2.1 d.2.2.2.2.2.2.1 (f5 hm.2.1) (f5 hn.2.1)))) ?_
 refine f4 4 qG (0 + p.x * q.x + p.y * q.y) (fun _ g S w d _ _ s t=>(kx (af7 d s.1 (j8 t 7 : (qG (g 7) (p.y * q.y)).p S w) (f5 (ae3 (d88 1) (r5 hm.1 hn.1))) (f5 (r5 hm.2.1 hn.2.1))))) ?_
 refine b6 1 (fun g d=>(qG (d 8) (0 + p.x * q.x + p.y * q.y)).and g) (fun g _=>(by kernel_rfl)) ?_
 intro η_2
 refine a8 9 ?_
 refine a6 7 ?_
 refine f4 4 qG (p.z * q.z) (fun _ _ S w g _ _ d _=>(kx (s8 g d.2.2.2.2.2.1 d.2.2.2.2.2.2.2.2 (f5 hm.2.2) (f5 hn.2.2)))) ?_
 refine f4 4 qG (0 + p.x * q.x + p.y * q.y + p.z * q.z) (fun _ g S w d _ _ s t=>(kx (af7 d s.1 (j8 t 7 : (qG (g 7) (p.z * q.z)).p S w) (f5 (ae3 (ae3 (d88 1) (r5 hm.1 hn.1)) (r5 hm.2.1 hn.2.1))) (f5 (r5 hm.2.2 hn.2.2))))) ?_
 refine b6 1 (fun g d=>(qG (d 8) (0 + p.x * q.x + p.y * q.y + p.z * q.z)).and g) (fun g _=>(by kernel_rfl)) ?_
 intro η_3
 exact j9 (η_3 8) rfl (fun S w g d s=>⟨d,by rw [← fe8]; exact s.1.mono fun k _ hk=>g k hk⟩)
theorem E8 {q : T3} (hS : Up S w) (hp : QTripV S w vp p) (hq : QTripV S w vq q) (hm : tl p m) (hn : tl q n) (hmn : m + n ≤ 1000000) :
  Gives prog 15 [vp,vq] w fun v' w'=>Ext w w' ∧ QTripV S w' v' (p.cross q):=by
 obtain ⟨a1,b1,c1,rfl,ha1,hb1,hc1⟩:=hp
 obtain ⟨a2,b2,c2,rfl,ha2,hb2,hc2⟩:=hq
 refine n4 (E:=env) (S0:=S) (G:=((qG a1 p.x).and ((qG b1 p.y).and ((qG c1 p.z).and ((qG a2 q.x).and ((qG b2 q.y).and (qG c2 q.z))))))) (l:=[.agg [.ag 4 a1,.ag 4 b1,.ag 4 c1],.agg [.ag 4 a2,.ag 4 b2,.ag 4 c2]]) func15 rfl rfl rfl ⟨I1 ⟨ha1.okc,hb1.okc,hc1.okc,trivial⟩,I1 ⟨ha2.okc,hb2.okc,hc2.okc,trivial⟩,trivial⟩ rfl ⟨ha1,hb1,hc1,ha2,hb2,hc2⟩ ?_
 refine i1 ?_
 refine a8 17 ?_
 refine a6 7 ?_
 refine f4 4 qG (p.y * q.z) (fun _ _ S w g _ _ d _=>(kx (s8 g d.2.1 d.2.2.2.2.2 (f5 hm.2.1) (f5 hn.2.2)))) ?_
 refine a6 6 ?_
 refine f4 4 qG (p.z * q.y) (fun _ _ S w g _ _ d _=>(kx (s8 g d.2.2.1 d.2.2.2.2.1 (f5 hm.2.2) (f5 hn.2.1)))) ?_
 refine f4 4 qG (p.y * q.z - p.z * q.y) (fun _ g S w d _ _ _ s=>(kx (am4 d (j8 s 7 : (qG (g 7) (p.y * q.z)).p S w) (j8 s 14 : (qG (g 14) (p.z * q.y)).p S w) (f5 (r5 hm.2.1 hn.2.2)) (f5 (r5 hm.2.2 hn.2.1))))) ?_
 refine a6 1 ?_
 refine b6 1 (fun g d=>(qG (d 15) (p.y * q.z - p.z * q.y)).and g) (fun g _=>(by kernel_rfl)) ?_
 intro η_1
 refine a8 17 ?_
 refine a6 7 ?_
 refine f4 4 qG (p.z * q.x) (fun _ _ S w g _ _ d _=>(kx (s8 g d.2.2.2.1 d.2.2.2.2.1 (f5 hm.2.2) (f5 hn.1)))) ?_
 refine a6 6 ?_
 refine f4 4 qG (p.x * q.z) (fun _ _ S w g _ _ d _=>(kx (s8 g d.2.1 d.2.2.2.2.2.2 (f5 hm.1) (f5 hn.2.2)))) ?_
 refine f4 4 qG (p.z * q.x - p.x * q.z) (fun _ g S w d _ _ _ s=>(kx (am4 d (j8 s 7 : (qG (g 7) (p.z * q.x)).p S w) (j8 s 14 : (qG (g 14) (p.x * q.z)).p S w) (f5 (r5 hm.2.2 hn.1)) (f5 (r5 hm.1 hn.2.2))))) ?_
 refine a6 1 ?_
 refine b6 1 (fun g d=>(qG (d 15) (p.z * q.x - p.x * q.z)).and g) (fun g _=>(by kernel_rfl)) ?_
 intro η_2
 refine a8 17 ?_
 refine a6 7 ?_
 refine f4 4 qG (p.x * q.y) (fun _ _ S w g _ _ d _=>(kx (s8 g d.2.2.1 d.2.2.2.2.2.2.1 (f5 hm.1) (f5 hn.2.1)))) ?_
 refine a6 6 ?_
 refine f4 4 qG (p.y * q.x) (fun _ _ S w g _ _ d _=>(kx (s8 g d.2.2.2.1 d.2.2.2.2.2.1 (f5 hm.2.1) (f5 hn.1)))) ?_
 refine f4 4 qG (p.x * q.y - p.y * q.x) (fun _ g S w d _ _ _ s=>(kx (am4 d (j8 s 7 : (qG (g 7) (p.x * q.y)).p S w) (j8 s 14 : (qG (g 14) (p.y * q.x)).p S w) (f5 (r5 hm.1 hn.2.1)) (f5 (r5 hm.2.1 hn.1))))) ?_
 refine a6 1 ?_
 refine b6 1 (fun g d=>(qG (d 15) (p.x * q.y - p.y * q.x)).and g) (fun g _=>(by kernel_rfl)) ?_
 intro η_3
 exact j9 (a42 (η_1 15) (η_2 15) (η_3 15)) rfl (fun S w g d s=>⟨d,_,_,_,rfl,s.2.2.1.mono fun k _ hk=>g k hk,s.2.1.mono fun k _ hk=>g k hk,s.1.mono fun k _ hk=>g k hk⟩)
theorem cn6 {q : T3} (hS : Up S w) (hp : QTripV S w vp p) (hq : QTripV S w vq q) (hm : tl p m) (hn : tl q n) (hmn : m + n ≤ 1000000) :
  Gives prog 21 [vp,vq] w fun v' w'=>v' = .bool (tst (p.dot q = 0)) ∧ Ext w w':=by
 refine n4 (E:=env) (S0:=S) (G:=((l7 vp p).and (l7 vq q))) (l:=[.one (.ag 12 vp),.one (.ag 12 vq)]) func21 rfl rfl rfl ⟨hp.ok,hq.ok,trivial⟩ rfl ⟨hp,hq⟩ ?_
 refine o6 4 qG (p.dot q) (fun _ S w g _ _ d=>(kx (S7 g d.1 d.2 hm hn hmn))) ?_
 intro d
 refine n9 (.one (.int .i64 (p.dot q).num.sign)) rfl (fun _ S w _ _ _ g=>(kx (ap0 g.1))) ?_
 exact j9 (.bool (tst ((p.dot q).num.sign = 0))) rfl (fun S w _ g _=>⟨by rw [av9],g⟩)
theorem b03 {q : T3} (hS : Up S w) (hp : QTripV S w vp p) (hq : QTripV S w vq q) (hr : QTripV S w vr r) (hm : tl p m) (hn : tl q m) (hk : tl r m) (hmm : m ≤ 100000) :
  Gives prog 87 [vp,vq,vr] w fun v' w'=>v' = .bool (tst (T3.Flat p q r)) ∧ Ext w w':=by
 refine n4 (E:=env) (S0:=S) (G:=((l7 vp p).and ((l7 vq q).and (l7 vr r)))) (l:=[.one (.ag 12 vp),.one (.ag 12 vq),.one (.ag 12 vr)]) func87 rfl rfl rfl ⟨hp.ok,hq.ok,hr.ok,trivial⟩ rfl ⟨hp,hq,hr⟩ ?_
 refine a8 7 ?_
 refine a6 3 ?_
 refine f4 12 l7 (q.cross r) (fun _ _ S w g _ _ d _=>(kx (E8 g d.2.1 d.2.2 hn hk (by omega)))) ?_
 refine f4 4 qG (p.dot (q.cross r)) (fun _ g S w d _ _ s t=>(kx (S7 d s.1 (j8 t 3 : (l7 (g 3) (q.cross r)).p S w) hm (q7 hn hk) (by omega)))) ?_
 refine af4 (.one (.int .i64 (p.dot (q.cross r)).num.sign)) rfl (fun _ g S w _ _ _ _ d=>(kx (ap0 (j8 d 4 : (qG (g 4) (p.dot (q.cross r))).p S w)))) ?_
 refine a6 1 ?_
 refine b6 0 (fun g _=>g) (fun g _=>(by kernel_rfl)) ?_
 intro η_1
 exact j9 (.bool (tst ((p.dot (q.cross r)).num.sign = 0))) rfl (fun S w _ g _=>⟨by rw [av9,T3.flat_iff]; rfl,g⟩)
theorem Z8 {l : List T3} (h : SeqV true 12 cm9 S w v l) : ∃ S' T' cs,Row S' T' 12 w v l.length cs:=let ⟨T,vs,_,_,hr,_⟩:=h.row; ⟨S,T,_,hr⟩
theorem af0 {l : List T3} (h : SeqV true 12 cm9 S w v l) (hi : i < l.length) (hu : u = .pointer (some (adr v (Int.toNat (i : Int) * 12)))) : ∃ S' x,P6 true 12 x ∧ At S' w u x.cells.toList ∧ (l7 x (T3.at l i)).p S w:=by
 subst hu
 obtain ⟨x,h1,h2,h3⟩:=h.at (T3.at_get hi)
 exact ⟨S,x,h1,h2,h3⟩
abbrev qvG (x : Value) (a : Value × Rat) : Gh:=(o8 (x = a.1)).and (qG x a.2)
abbrev qvF (x : Value) (a : Value × Rat) : Gh:=qvG x a
theorem cp8 {l : List (Value × Rat)} (h : j < l.length) : l[j]? = some (l.getD j (undef,0)):=by rw [List.getD_eq_getElem?_getD,List.getElem?_eq_getElem h]; rfl
theorem bl7 {l : List (Value × Rat)} {p : Nat} (hS : Up S w) (h : SeqV true 4 qvF S w v l) (hpl : p < l.length) (hp0 : (l.getD p (undef,0)).2 ≠ 0) (hlow : ∀ j,j < p → (l.getD j (undef,0)).2 = 0) :
  Gives prog 110 [v] w fun v' w'=>v' = .tuple #[(l.getD p (undef,0)).1,.bool true] ∧ Ext w w':=by
 have hmx:=h.len_le
 unfold maxLen at hmx
 refine n4 (E:=env) (S0:=S) (G:=(cv5 true 4 qvF v l)) (l:=[.one (.sl v l.length)]) func110 rfl rfl rfl ⟨h.sl,trivial⟩ rfl h ?_
 refine ac0 (ι:=Nat) [(3,20)] (fun j=>[(4,.one (.int .i64 (j : Int)))]) (fun _=>[]) (fun _ g=>g) (fun j=>j ≤ p) (fun j=>p - j) 0 ⟨c8,hS,l8⟩ (by kernel_rfl) (by kernel_rfl) (fun _=>(by kernel_rfl)) (fun _=>(by kernel_rfl)) (by kernel_rfl) (Nat.zero_le _) (fun S w _ _=>⟨z8 rfl,fun p hp=>by cases hp⟩) (fun S w _ g=>g) (fun hso j hj=>?_)
 have hlt' : j < l.length:=by omega
 have hx0:=cp8 hlt'
 refine am0 (p:=(j : Int) < (l.length : Int)) (by omega) ?_
 refine o7 (bl3 v l.length (j : Int) 30 4 (fun u0=>atG true 4 (fun x0=>qvG x0 (l.getD j (undef,0))) u0) (by kernel_rfl) ⟨c8,hS,l8⟩ (fun _ S w _ _ g=>g.el rfl rfl hx0) ?_)
 intro u_1
 refine o7 (bg8 u_1 30 4 true (fun x0=>.one (.ag 4 x0)) (fun x0=>qvG x0 (l.getD j (undef,0))) (by kernel_rfl) ⟨c8,hS,l8⟩ (fun S w _ g=>g.1) (fun _ _ _ h=>⟨h.2.ok,rfl⟩) ?_)
 intro x
 refine n9 (.one (.int .i64 (l.getD j (undef,0)).2.num.sign)) rfl (fun _ S w _ _ _ g=>(kx (ap0 g.1.2))) ?_
 by_cases e : j = p
 ·subst e
  refine am0 (p:=¬ (l.getD j (undef,0)).2.num.sign = 0) (fun g=>hp0 (ap5.1 g)) ?_
  refine o7 (bl3 v l.length (j : Int) 30 4 (fun u0=>atG true 4 (fun x0=>qvG x0 (l.getD j (undef,0))) u0) (by kernel_rfl) ⟨c8,hS,l8⟩ (fun _ S w _ _ g=>g.2.2.el rfl rfl hx0) ?_)
  intro u_2
  refine o7 (bg8 u_2 30 4 true (fun x0=>.one (.ag 4 x0)) (fun x0=>qvG x0 (l.getD j (undef,0))) (by kernel_rfl) ⟨c8,hS,l8⟩ (fun S w _ g=>g.1) (fun _ _ _ h=>⟨h.2.ok,rfl⟩) ?_)
  intro y
  refine al7 ?_
  exact j9 (.tuple #[y,.bool true]) rfl (fun S w _ g d=>⟨by rw [d.1.1],g⟩)
 refine as7 (p:=¬ (l.getD j (undef,0)).2.num.sign = 0) (fun g=>g (ap5.2 (hlow j (by omega)))) ?_
 refine P9 (ps:=[InR .i64 ((j : Int) + 1)]) (by simp only [I3,InR,and_true]; omega) ?_
 exact ac7 (j + 1) ⟨c8,hS,l8⟩ hso (by kernel_rfl) (by kernel_rfl) (fun _=>(by kernel_rfl)) (fun _=>(by kernel_rfl)) (by kernel_rfl) (by omega) (by omega) (fun S w _ _=>⟨z8 rfl,fun p hp=>by cases hp⟩) (fun S w _ g=>g.2.2)
theorem dd0 {l : List (Value × Rat)} (hS : Up S w) (h : SeqV true 4 qvF S w v l) (h0 : ∀ j,j < l.length → (l.getD j (undef,0)).2 = 0) :
  Gives prog 110 [v] w fun v' w'=>v' = .tuple #[b83,.bool false] ∧ Ext w w':=by
 have hmx:=h.len_le
 unfold maxLen at hmx
 refine n4 (E:=env) (S0:=S) (G:=(cv5 true 4 qvF v l)) (l:=[.one (.sl v l.length)]) func110 rfl rfl rfl ⟨h.sl,trivial⟩ rfl h ?_
 refine ac0 (ι:=Nat) [(3,20)] (fun j=>[(4,.one (.int .i64 (j : Int)))]) (fun _=>[]) (fun _ g=>g) (fun j=>j ≤ l.length) (fun j=>l.length - j) 0 ⟨c8,hS,l8⟩ (by kernel_rfl) (by kernel_rfl) (fun _=>(by kernel_rfl)) (fun _=>(by kernel_rfl)) (by kernel_rfl) (Nat.zero_le _) (fun S w _ _=>⟨z8 rfl,fun p hp=>by cases hp⟩) (fun S w _ g=>g) (fun hso j hj=>?_)
 refine z7 (p:=(j : Int) < (l.length : Int)) (fun hlt=>?_) (fun hlt=>?_)
 ·have hlt' : j < l.length:=by omega
  have hx0:=cp8 hlt'
  refine o7 (bl3 v l.length (j : Int) 30 4 (fun u0=>atG true 4 (fun x0=>qvG x0 (l.getD j (undef,0))) u0) (by kernel_rfl) ⟨c8,hS,l8⟩ (fun _ S w _ _ g=>g.el rfl rfl hx0) ?_)
  intro u_1
  refine o7 (bg8 u_1 30 4 true (fun x0=>.one (.ag 4 x0)) (fun x0=>qvG x0 (l.getD j (undef,0))) (by kernel_rfl) ⟨c8,hS,l8⟩ (fun S w _ g=>g.1) (fun _ _ _ h=>⟨h.2.ok,rfl⟩) ?_)
  intro x
  refine n9 (.one (.int .i64 (l.getD j (undef,0)).2.num.sign)) rfl (fun _ S w _ _ _ g=>(kx (ap0 g.1.2))) ?_
  refine as7 (p:=¬ (l.getD j (undef,0)).2.num.sign = 0) (fun g=>g (ap5.2 (h0 j hlt'))) ?_
  refine P9 (ps:=[InR .i64 ((j : Int) + 1)]) (by simp only [I3,InR,and_true]; omega) ?_
  exact ac7 (j + 1) ⟨c8,hS,l8⟩ hso (by kernel_rfl) (by kernel_rfl) (fun _=>(by kernel_rfl)) (fun _=>(by kernel_rfl)) (by kernel_rfl) (by omega) (by omega) (fun S w _ _=>⟨z8 rfl,fun p hp=>by cases hp⟩) (fun S w _ g=>g.2.2)
 refine al7 ?_
 exact j9 (.tuple #[b83,.bool false]) rfl (fun S w _ g _=>⟨rfl,g⟩)
theorem qv3 (h1 : QV S w a t.x) (h2 : QV S w b t.y) (h3 : QV S w c t.z) : ElsV true 4 qvF S w [a,b,c] [(a,t.x),(b,t.y),(c,t.z)]:=by
 refine ⟨rfl,fun x hx=>?_,fun i q x hq hx=>?_⟩
 ·simp only [List.mem_cons,List.not_mem_nil,or_false] at hx
  rcases hx with rfl | rfl | rfl
  ·exact h1.lies
  ·exact h2.lies
  exact h3.lies
 match i with
 | 0=>simp at hq hx; subst hq hx; exact ⟨rfl,h1⟩
 | 1=>simp at hq hx; subst hq hx; exact ⟨rfl,h2⟩
 | 2=>simp at hq hx; subst hq hx; exact ⟨rfl,h3⟩
 | i + 3=>simp at hq
noncomputable def cp0 (t : T3) (a b c : Value) : Value:=if t.x ≠ 0 then a else if t.y ≠ 0 then b else c
theorem di6 (h1 : QV S w a t.x) (h2 : QV S w b t.y) (h3 : QV S w c t.z) : QV S w (cp0 t a b c) t.lead:=by
 unfold cp0 T3.lead
 split
 ·exact h1
 split
 ·exact h2
 exact h3
theorem ct5 (hS : Up S w) (h : SeqV true 4 qvF S w v [(a,t.x),(b,t.y),(c,t.z)]) (hn : ¬ t.None) :
  Gives prog 110 [v] w fun v' w'=>v' = .tuple #[cp0 t a b c,.bool true] ∧ Ext w w':=by
 unfold cp0
 by_cases hx : t.x = 0
 ·by_cases hy : t.y = 0
  ·have hz : t.z ≠ 0:=fun hz=>hn ⟨hx,hy,hz⟩
   rw [if_neg (fun h=>h hx),if_neg (fun h=>h hy)]
   exact bl7 (p:=2) hS h (by simp) hz fun j hj=>by
    match j,hj with
    | 0,_=>exact hx
    | 1,_=>exact hy
  rw [if_neg (fun h=>h hx),if_pos hy]
  exact bl7 (p:=1) hS h (by simp) hy fun j hj=>by
   match j,hj with
   | 0,_=>exact hx
 rw [if_pos hx]
 exact bl7 (p:=0) hS h (by simp) hx fun j hj=>absurd hj (Nat.not_lt_zero _)
theorem c24 (hS : Up S w) (h : SeqV true 4 qvF S w v [(a,t.x),(b,t.y),(c,t.z)]) (hn : t.None) :
  Gives prog 110 [v] w fun v' w'=>v' = .tuple #[b83,.bool false] ∧ Ext w w':=
 dd0 hS h fun j hj=>by
  match j,hj with
  | 0,_=>exact hn.1
  | 1,_=>exact hn.2.1
  | 2,_=>exact hn.2.2
theorem M8 (hS : Up S w) (hp : QTripV S w vp p) :
  Gives prog 43 [vp] w fun v' w'=>v' = .bool (tst p.None) ∧ Ext w w':=by
 obtain ⟨a,b,c,rfl,ha,hb,hc⟩:=hp
 refine n4 (E:=env) (S0:=S) (G:=((qG a p.x).and ((qG b p.y).and (qG c p.z)))) (l:=[.agg [.ag 4 a,.ag 4 b,.ag 4 c]]) func43 rfl rfl rfl ⟨I1 ⟨ha.okc,hb.okc,hc.okc,trivial⟩,trivial⟩ rfl ⟨ha,hb,hc⟩ ?_
 by_cases hn : p.None
 ·refine ag7 (.tup [(true,[.bb false,.sl (.slice none 0 0) 0,.bb false,.sl (.slice none 0 0) 0]),(false,[.bb false])]) rfl (fun _ S w g d _ _ s=>(kx (c24 (A4 g) (Q5 (F:=qvF) (l:=[(a,p.x),(b,p.y),(c,p.z)]) 0 39 [a,b,c] d (by kernel_rfl) (qv3 s.1 s.2.1 s.2.2) (show 3 ≤ maxLen by decide)) hn))) ?_
  exact j9 (.bool true) rfl (fun S w _ g _=>⟨by rw [j6 hn],g⟩)
 refine dv9 (fun x0=>pr (.ag 4 (O3 x0 0)) (.bb true)) (fun x0=>bG (fun x1=>qG x1 p.lead) true x0) ⟨c8,hS,l8⟩ (by kernel_rfl) (by kernel_rfl) (fun _ _ _ h=>cl8 h) (fun _ S w g d _ _ s=>(kx ((ct5 (A4 g) (Q5 (F:=qvF) (l:=[(a,p.x),(b,p.y),(c,p.z)]) 0 39 [a,b,c] d (by kernel_rfl) (qv3 s.1 s.2.1 s.2.2) (show 3 ≤ maxLen by decide)) hn).mono fun v' w' h=>⟨h.2,by rw [h.1]; rfl,by rw [h.1]; exact (di6 s.1 s.2.1 s.2.2).to h.2⟩))) ?_
 intro y
 exact j9 (.bool false) rfl (fun S w _ g _=>⟨by rw [j2 hn],g⟩)
theorem H3 {q : T3} (hS : Up S w) (hp : QTripV S w vp p) (hq : QTripV S w vq q) (hm : tl p m) (hn : tl q n) (hmn : m + n ≤ 1000000) :
  Gives prog 11 [vp,vq] w fun v' w'=>v' = .bool (tst (T3.Same p q)) ∧ Ext w w':=by
 refine n4 (E:=env) (S0:=S) (G:=((l7 vp p).and (l7 vq q))) (l:=[.one (.ag 12 vp),.one (.ag 12 vq)]) func11 rfl rfl rfl ⟨hp.ok,hq.ok,trivial⟩ rfl ⟨hp,hq⟩ ?_
 refine o6 12 l7 (p.cross q) (fun _ S w g _ _ d=>(kx (E8 g d.1 d.2 hm hn hmn))) ?_
 intro c
 refine n9 (.one (.tp (p.cross q).None)) rfl (fun _ S w g _ _ d=>(kx (M8 g d.1))) ?_
 exact j9 (.bool (tst (p.cross q).None)) rfl (fun S w _ g _=>⟨rfl,g⟩)
theorem X5 (h : q ≠ 0) : q.num ≠ 0:=fun e=>h (Rat.num_eq_zero.1 e)
theorem ax0 (h : tl t n) : rl t.lead n:=by
 unfold T3.lead
 split
 ·exact h.1
 split
 ·exact h.2.1
 exact h.2.2
theorem aw2 (hS : Up S w) (hp : QTripV S w vp p) (hm : tl p m) (hmm : m ≤ 1000000) (hnn : ¬ p.None) :
  Gives prog 80 [vp] w fun v' w'=>Ext w w' ∧ QTripV S w' v' p.normal:=by
 have hl0:=T3.lead_ne hnn
 obtain ⟨a,b,c,rfl,ha,hb,hc⟩:=hp
 refine n4 (E:=env) (S0:=S) (G:=((qG a p.x).and ((qG b p.y).and (qG c p.z)))) (l:=[.agg [.ag 4 a,.ag 4 b,.ag 4 c]]) func80 rfl rfl rfl ⟨I1 ⟨ha.okc,hb.okc,hc.okc,trivial⟩,trivial⟩ rfl ⟨ha,hb,hc⟩ ?_
 refine dv9 (fun x0=>pr (.ag 4 (O3 x0 0)) (.bb true)) (fun x0=>bG (fun x1=>qG x1 p.lead) true x0) ⟨c8,hS,l8⟩ (by kernel_rfl) (by kernel_rfl) (fun _ _ _ h=>cl8 h) (fun _ S w g d _ _ s=>(kx ((ct5 (A4 g) (Q5 (F:=qvF) (l:=[(a,p.x),(b,p.y),(c,p.z)]) 0 39 [a,b,c] d (by kernel_rfl) (qv3 s.1 s.2.1 s.2.2) (show 3 ≤ maxLen by decide)) hnn).mono fun v' w' h=>⟨h.2,by rw [h.1]; rfl,by rw [h.1]; exact (di6 s.1 s.2.1 s.2.2).to h.2⟩))) ?_
 intro y
 refine i1 ?_
 refine a8 7 ?_
 refine a6 5 ?_
 refine f4 4 qG (p.x / p.lead) (fun _ _ S w g _ _ d _=>(kx (bw5 g d.2.1 d.1.2 (f5 hm.1) (f5 (ax0 hm)) (X5 hl0)))) ?_
 refine a6 1 ?_
 refine b6 1 (fun g d=>(qG (d 5) (p.x / p.lead)).and g) (fun g _=>(by kernel_rfl)) ?_
 intro η_1
 refine a8 7 ?_
 refine a6 5 ?_
 refine f4 4 qG (p.y / p.lead) (fun _ _ S w g _ _ d _=>(kx (bw5 g d.2.2.2.1 d.2.1.2 (f5 hm.2.1) (f5 (ax0 hm)) (X5 hl0)))) ?_
 refine a6 1 ?_
 refine b6 1 (fun g d=>(qG (d 5) (p.y / p.lead)).and g) (fun g _=>(by kernel_rfl)) ?_
 intro η_2
 refine a8 7 ?_
 refine a6 5 ?_
 refine f4 4 qG (p.z / p.lead) (fun _ _ S w g _ _ d _=>(kx (bw5 g d.2.2.2.2.2 d.2.2.1.2 (f5 hm.2.2) (f5 (ax0 hm)) (X5 hl0)))) ?_
 refine a6 1 ?_
 refine b6 1 (fun g d=>(qG (d 5) (p.z / p.lead)).and g) (fun g _=>(by kernel_rfl)) ?_
 intro η_3
 exact j9 (a42 (η_1 5) (η_2 5) (η_3 5)) rfl (fun S w g d s=>⟨d,_,_,_,rfl,s.2.2.1.mono fun k _ hk=>g k hk,s.2.1.mono fun k _ hk=>g k hk,s.1.mono fun k _ hk=>g k hk⟩)
section
variable {c : Cx} {st : St} {G : Gh} {all : List Oper} {K : List HRec → Prop} {acc : List HRec} {ops : List Oper}
noncomputable def hpS (c : Cx) (st : St) (acc : List HRec) (ops : List Oper) (η : Nat → Value) : SV:=match cf6 c.E st.hp (frH st acc η) (opH ops) with | some (s,_)=>s | none=>.und
theorem cq4 (p : Value → SV) (Δ : Value → Gh) (hc : c.Ok) (hok : ∀ η,am7 all st acc ops η = true) (hv : ∀ η,cf6 c.E st.hp (frH st acc η) (opH ops) = some (hpS c st acc ops η,[]))
  (h : ∀ β η S w,Up S w → Mem c.bs st.hp β w → (∀ k,S k → c.S0 k) → Keeps c.K c.w0 w → G.p S w → depsH acc (opH ops).after.toList η S w → ∃ v,(hpS c st acc ops η).den β = v ∧ v = (p v).den (fun _=>0) ∧ (p v).Ok 0 ∧ (Δ v).p S w)
  (k : Hd c st G all K (.spec ((opH ops).dst.getD 0) p Δ :: acc) (ops.drop 1)) : Hd c st G all K acc ops:=by
 refine bj7 p Δ hok (fun β η S w F m ty hkn hup hM hS hw hG hd=>?_) k
 obtain ⟨v,h1,h2,h3,h4⟩:=h β η S w hup hM hS hw hG hd
 have hkn2 : ah6 β (max m st.hp.length) (frH st acc η) (ev F) (opH ops).op:=fun x hx s hs=>by
  obtain ⟨e1,e2⟩:=hkn x hx s hs
  exact ⟨e1,e2.le (Nat.le_max_left _ _)⟩
 have he:=hv η
 generalize hpS c st acc ops η = s at he h1
 unfold cf6 at he
 split at he <;> first | (cases he; done) | skip
 rename_i s' vc' hp
 simp only [Option.some.injEq,Prod.mk.injEq] at he
 obtain ⟨rfl,rfl⟩:=he
 have h5:=(bw2 (P:=c.P) (ty:=ty) (Nat.le_max_right m st.hp.length) hc.env hM hkn2 (ai0 hp).1 trivial).1
 exact ⟨v,h1 ▸ h5,h2,h3,h4⟩
end
def cel (v : Value) (o n : Nat) : Value:=.agg ((v.cells.toList.drop o).take n).toArray
theorem X6 {g : Bool} (h : v.cells.toList = A7 vs) (hl : ∀ x ∈ vs,P6 true n x) (hx : vs[i]? = some x) : cel v (i * n) n = x:=by
 unfold cel
 rw [h]
 unfold A7
 rw [ap7 hl hx]
 have h2:=(hl x (List.mem_of_getElem? hx)).2
 simp only [cond_true] at h2
 rw [h2]
 simp [Value.cells]
abbrev ae9 (v : Value) (t : T3) : Gh:=⟨fun S w=>v = (SV.agg [.ag 3 (cel v 0 3),.ag 3 (cel v 3 3),.ag 3 (cel v 6 3)]).den (fun _=>0) ∧ RatV S w (cel v 0 3) t.x ∧ RatV S w (cel v 3 3) t.y ∧ RatV S w (cel v 6 3) t.z,fun h k=>⟨h.1,h.2.1.keep k,h.2.2.1.keep k,h.2.2.2.keep k⟩,fun h k=>⟨h.1,h.2.1.mono k,h.2.2.1.mono k,h.2.2.2.mono k⟩⟩
abbrev ae0 (v : Value) (t : T3) : Gh:=⟨fun S w=>v = (SV.agg [.ag 4 (cel v 0 4),.ag 4 (cel v 4 4),.ag 4 (cel v 8 4)]).den (fun _=>0) ∧ QV S w (cel v 0 4) t.x ∧ QV S w (cel v 4 4) t.y ∧ QV S w (cel v 8 4) t.z,fun h k=>⟨h.1,h.2.1.keep k,h.2.2.1.keep k,h.2.2.2.keep k⟩,fun h k=>⟨h.1,h.2.1.mono k,h.2.2.1.mono k,h.2.2.2.mono k⟩⟩
section
variable {S : Nat → Prop} {w : World} {v : Value} {t : T3}
theorem ad5 (h : (ae9 v t).p S w) : (SV.agg [.ag 3 (cel v 0 3),.ag 3 (cel v 3 3),.ag 3 (cel v 6 3)]).Ok 0 ∧ (SV.agg [.ag 3 (cel v 0 3),.ag 3 (cel v 3 3),.ag 3 (cel v 6 3)]).den (fun _=>0) = v:=
 ⟨I1 ⟨h.2.1.okc,h.2.2.1.okc,h.2.2.2.okc,trivial⟩,h.1.symm⟩
theorem aa7 (h : (ae0 v t).p S w) : (SV.agg [.ag 4 (cel v 0 4),.ag 4 (cel v 4 4),.ag 4 (cel v 8 4)]).Ok 0 ∧ (SV.agg [.ag 4 (cel v 0 4),.ag 4 (cel v 4 4),.ag 4 (cel v 8 4)]).den (fun _=>0) = v:=
 ⟨I1 ⟨h.2.1.okc,h.2.2.1.okc,h.2.2.2.okc,trivial⟩,h.1.symm⟩
theorem b37 (h : TripV S w v t) : (ae9 v t).p S w:=by
 obtain ⟨a,b,c,hv,h1,h2,h3⟩:=h
 have hl : ∀ x ∈ [a,b,c],P6 true 3 x:=by
  intro x hx
  simp only [List.mem_cons,List.not_mem_nil,or_false] at hx
  rcases hx with rfl | rfl | rfl
  ·exact h1.lies
  ·exact h2.lies
  exact h3.lies
 have hc : v.cells.toList = A7 [a,b,c]:=by rw [hv]; exact an2 h1.lies h2.lies h3.lies
 have e1 : cel v 0 3 = a:=X6 (g:=true) (i:=0) hc hl rfl
 have e2 : cel v 3 3 = b:=X6 (g:=true) (i:=1) hc hl rfl
 have e3 : cel v 6 3 = c:=X6 (g:=true) (i:=2) hc hl rfl
 show v = _ ∧ _
 rw [e1,e2,e3]
 exact ⟨hv,h1,h2,h3⟩
theorem bn5 (h : QTripV S w v t) : (ae0 v t).p S w:=by
 obtain ⟨a,b,c,hv,h1,h2,h3⟩:=h
 have hl : ∀ x ∈ [a,b,c],P6 true 4 x:=by
  intro x hx
  simp only [List.mem_cons,List.not_mem_nil,or_false] at hx
  rcases hx with rfl | rfl | rfl
  ·exact h1.lies
  ·exact h2.lies
  exact h3.lies
 have hc : v.cells.toList = A7 [a,b,c]:=by rw [hv]; exact ck6
 have e1 : cel v 0 4 = a:=X6 (g:=true) (i:=0) hc hl rfl
 have e2 : cel v 4 4 = b:=X6 (g:=true) (i:=1) hc hl rfl
 have e3 : cel v 8 4 = c:=X6 (g:=true) (i:=2) hc hl rfl
 show v = _ ∧ _
 rw [e1,e2,e3]
 exact ⟨hv,h1,h2,h3⟩
end
section
variable {c : Cx} {o : Out} {G : Gh}
theorem dx1 (Δ : Gh) (h : ∀ β S w,Mem c.bs o.st.hp β w → Keeps c.K c.w0 w → G.p S w → Δ.p S w) (hn : Run c o (Δ.and G)) : Run c o G:=
 ⟨fun β ρ w hS hw hG=>hn.run β ρ w hS hw ⟨h β _ w hS.mem hw hG,hG⟩⟩
end
theorem QTripV.lies (h : QTripV S w v t) : P6 true 12 v:=by
 obtain ⟨us,rfl,h2,_⟩:=h.ok
 have:=a56 us
 rwa [h2] at this
theorem ElsV.snoc {F : Value → α → Gh} {l : List α} {a : α} (h : ElsV g s F S w vs l) (hy : P6 g s y) (hF : (F y a).p S w) : ElsV g s F S w (vs ++ [y]) (l ++ [a]):=by
 refine ⟨by simp [h.len],fun x hx=>?_,fun i b x h1 h2=>?_⟩
 ·rcases List.mem_append.1 hx with hx | hx
  ·exact h.lies x hx
  rw [List.mem_singleton.1 hx]; exact hy
 rcases Nat.lt_trichotomy i l.length with hi | hi | hi
 ·rw [List.getElem?_append_left hi] at h1
  rw [List.getElem?_append_left (by rw [h.len]; exact hi)] at h2
  exact h.el i b x h1 h2
 ·rw [List.getElem?_append_right (by omega),hi,Nat.sub_self] at h1
  rw [List.getElem?_append_right (by rw [h.len]; omega),h.len,hi,Nat.sub_self] at h2
  simp at h1 h2
  subst h1 h2
  exact hF
 rw [List.getElem?_eq_none (by simp; omega)] at h1
 cases h1
theorem ElsV.ofRow {F : Value → α → Gh} {l : List α} (h : ElsV g s F S w vs l) (hr : Row S T s w v n (A7 vs)) (hn : n = l.length) : SeqV g s F S w v l:=by
 subst hn
 exact ⟨T,vs,h.len,h.lies,hr,h.el⟩
theorem a87 (vs : List Value) (y : Value) : A7 vs ++ y.cells.toList = A7 (vs ++ [y]):=by simp [A7]
theorem cu0 (h : ∀ x ∈ vs,P6 g s x) (n : Nat) : (A7 vs).take (n * s) = A7 (vs.take n):=by
 induction n generalizing vs with
 | zero=>simp [A7]
 | succ n ih=>
  cases vs with
  | nil=>simp [A7]
  | cons x r=>
   have h1:=(h x (List.mem_cons_self ..)).1
   have h2:=ih (vs:=r) fun y hy=>h y (List.mem_cons_of_mem _ hy)
   unfold A7 at h2 ⊢
   rw [List.flatMap_cons,List.take_succ_cons,List.flatMap_cons,Nat.add_mul,Nat.one_mul,Nat.add_comm,← h1,List.take_length_add_append,h1,h2]
theorem bz5 (i : Nat) (T : TypeId) (hM : Mem base hp β w) (hb : nth hp i = some (.blk T [.ag s v])) (hk : (SV.one (.ag s v)).Ok 0) :
  ∃ S',Row S' T s w (.slice (some ⟨β i,0,none⟩) 1 1) 1 v.cells.toList ∧ ∀ u ∈ v.cells.toList,u.oneCell' = true:=by
 obtain ⟨us,rfl,h2,h3⟩:=hk
 rw [O9] at hb
 have hB:=(hM.blk i T _ hb).1
 rw [Y9] at hB
 have ho : Own 0 T s w (.slice (some ⟨β i,0,none⟩) 1 1) 1 (Value.agg us.toArray).cells.toList:=av4 hB (Nat.zero_le _) (show 1 ≤ maxLen by decide) (by simp [Value.cells,h2])
 obtain ⟨S',hr⟩:=bg5 ho
 exact ⟨S',hr,by simpa [Value.cells] using h3⟩
theorem cf3 (h : rl q k) : (N8 q).length ≤ 18 * k + 5:=by
 unfold N8
 have h1:=as4 q.num
 have h2:=L7 q.num.natAbs (show dl q.num.natAbs ≤ k from h.1)
 have h3:=L7 q.den (show dl q.den ≤ k from h.2)
 rw [List.length_append]
 split
 ·simp; omega
 rw [List.length_cons,Lib.decDigits_length]; omega
theorem c25 {s : List UInt8} (hS : Up S w) (hl : s.length ≤ 14000) (h : s = N8 q) : Gives prog 128 [F3 s] w fun v w'=>Ext w w' ∧ (ax3 v q 0).p S w':=
 (db9 hS (by omega)).mono fun v w' ⟨k,hp⟩=>⟨k,by
  rcases hp with ⟨h1,_⟩ | ⟨_,h1,_⟩ | ⟨_,z',h1,r,e,rfl,ht⟩
  ·omega
  ·exact absurd h (h1 q)
  obtain rfl : q = z':=di7 (h.symm.trans h1)
  rcases ht with ⟨_,rfl,h3⟩ | ⟨h2,_⟩
  ·exact ⟨rfl,h3⟩
  exact absurd (dd9 (q:=q) (h ▸ Nat.le_trans hl (by decide))) h2⟩
theorem ap8 (hS : Up S w) (h : QV S w v q) (hq : rl q n) (hn : n ≤ 700) :
  Gives prog 74 [v] w fun v' w'=>Ext w w' ∧ RatV S w' v' q:=by
 have hs:=cf3 hq
 refine n4 (E:=env) (S0:=S) (G:=(qG v q)) (l:=[.one (.ag 4 v)]) func74 rfl rfl rfl ⟨h.ok,trivial⟩ rfl h ?_
 refine n9 (.one (.str (N8 q))) rfl (fun _ S w g _ _ d=>(kx (bg7 g d (f5 hq)))) ?_
 refine ah1 (fun x0=>pr (.ag 3 (N6 x0)) (.lit .i64 0)) (fun x0=>ax3 x0 q 0) (fun _ _ _ h=>aj7 h) (fun _ S w g _ _ _=>(kx (c25 (s:=N8 q) g (by omega) rfl))) ?_
 intro r
 exact j9 (N6 r) rfl (fun S w g d s=>⟨d,s.1.2.mono fun k _ hk=>g k hk⟩)
theorem A1 (hS : Up S w) (hp : QTripV S w vp p) (hq : tl p n) (hn : n ≤ 700) :
  Gives prog 18 [vp] w fun v' w'=>Ext w w' ∧ TripV S w' v' p:=by
 obtain ⟨a,b,c,rfl,ha,hb,hc⟩:=hp
 refine n4 (E:=env) (S0:=S) (G:=((qG a p.x).and ((qG b p.y).and (qG c p.z)))) (l:=[.agg [.ag 4 a,.ag 4 b,.ag 4 c]]) func18 rfl rfl rfl ⟨I1 ⟨ha.okc,hb.okc,hc.okc,trivial⟩,trivial⟩ rfl ⟨ha,hb,hc⟩ ?_
 refine a8 9 ?_
 refine a6 2 ?_
 refine f4 3 n5 p.x (fun _ _ S w g _ _ d _=>(kx (ap8 g d.1 hq.1 hn))) ?_
 refine a6 2 ?_
 refine f4 3 n5 p.y (fun _ _ S w g _ _ d _=>(kx (ap8 g d.2.1 hq.2.1 hn))) ?_
 refine a6 2 ?_
 refine f4 3 n5 p.z (fun _ _ S w g _ _ d _=>(kx (ap8 g d.2.2 hq.2.2 hn))) ?_
 refine b6 7 (fun g d=>(n5 (d 8) p.z).and ((n5 (d 5) p.y).and ((n5 (d 2) p.x).and g))) (fun g _=>(by kernel_rfl)) ?_
 intro η_1
 exact j9 (az7 (η_1 2) (η_1 5) (η_1 8)) rfl (fun S w g d s=>⟨d,_,_,_,rfl,s.2.2.1.mono fun k _ hk=>g k hk,s.2.1.mono fun k _ hk=>g k hk,s.1.mono fun k _ hk=>g k hk⟩)
theorem c12 {q : T3} (ht : Tab w) (hS : Up S w) (hp : TripV S w vp p) (hq : QTripV S w vq q) (hm : tl q m) (hmm : m ≤ 100000) (hnn : ¬ q.None) (he : p = q.normal) :
  Gives prog 23 [vp,vq] w fun v' w'=>v' = .bool true ∧ Ext w w':=by
 have hl0:=X5 (T3.lead_ne hnn)
 have r1 : rl (q.x / q.lead) 400000000000:=f5 (al8 hm.1 (ax0 hm) hl0)
 have r2 : rl (q.y / q.lead) 400000000000:=f5 (al8 hm.2.1 (ax0 hm) hl0)
 have r3 : rl (q.z / q.lead) 400000000000:=f5 (al8 hm.2.2 (ax0 hm) hl0)
 subst he
 obtain ⟨a,b,c,rfl,ha,hb,hc⟩:=hp
 replace ha : RatV S w a (q.x / q.lead):=ha
 replace hb : RatV S w b (q.y / q.lead):=hb
 replace hc : RatV S w c (q.z / q.lead):=hc
 refine n4 (E:=env) (S0:=S) (G:=((l7 vq q).and ((n5 a (q.x / q.lead)).and ((n5 b (q.y / q.lead)).and (n5 c (q.z / q.lead)))))) (l:=[.agg [.ag 3 a,.ag 3 b,.ag 3 c],.one (.ag 12 vq)]) func23 rfl rfl rfl ⟨I1 ⟨ha.okc,hb.okc,hc.okc,trivial⟩,hq.ok,trivial⟩ rfl ⟨hq,ha,hb,hc⟩ ?_
 refine ah1 (fun x0=>.agg [.ag 4 (cel x0 0 4),.ag 4 (cel x0 4 4),.ag 4 (cel x0 8 4)]) (fun x0=>ae0 x0 q.normal) (fun _ _ _ h=>aa7 h) (fun _ S w g _ _ d=>(kx ((aw2 g d.1 hm (by omega) hnn).mono fun v' w' h=>⟨h.1,bn5 h.2⟩))) ?_
 intro n
 refine i1 ?_
 refine a8 9 ?_
 refine a6 3 ?_
 refine af4 (.one (.str (N8 (q.x / q.lead)))) rfl (fun _ _ S w _ _ g d _=>(kx (bk7 (ht.to g) d.2.2.1 r1))) ?_
 refine a6 3 ?_
 refine af4 (.one (.str (N8 (q.x / q.lead)))) rfl (fun _ _ S w g _ _ d _=>(kx (bg7 g d.1.2.1 r1))) ?_
 refine ce0 (p:=N8 (q.x / q.lead) ≠ N8 (q.x / q.lead)) false (fun _=>(by kernel_rfl)) (fun _=>(by kernel_rfl)) (fun _=>(by kernel_rfl)) ⟨fun h=>absurd h (fun h=>h rfl),fun h=>by cases h⟩ ?_
 refine b6 0 (fun g _=>g) (fun g _=>(by kernel_rfl)) ?_
 intro η_1
 refine a8 9 ?_
 refine a6 3 ?_
 refine af4 (.one (.str (N8 (q.y / q.lead)))) rfl (fun _ _ S w _ _ g d _=>(kx (bk7 (ht.to g) d.2.2.2.1 r2))) ?_
 refine a6 3 ?_
 refine af4 (.one (.str (N8 (q.y / q.lead)))) rfl (fun _ _ S w g _ _ d _=>(kx (bg7 g d.1.2.2.1 r2))) ?_
 refine ce0 (p:=N8 (q.y / q.lead) ≠ N8 (q.y / q.lead)) false (fun _=>(by kernel_rfl)) (fun _=>(by kernel_rfl)) (fun _=>(by kernel_rfl)) ⟨fun h=>absurd h (fun h=>h rfl),fun h=>by cases h⟩ ?_
 refine b6 0 (fun g _=>g) (fun g _=>(by kernel_rfl)) ?_
 intro η_2
 refine a8 9 ?_
 refine a6 3 ?_
 refine af4 (.one (.str (N8 (q.z / q.lead)))) rfl (fun _ _ S w _ _ g d _=>(kx (bk7 (ht.to g) d.2.2.2.2 r3))) ?_
 refine a6 3 ?_
 refine af4 (.one (.str (N8 (q.z / q.lead)))) rfl (fun _ _ S w g _ _ d _=>(kx (bg7 g d.1.2.2.2 r3))) ?_
 refine ce0 (p:=N8 (q.z / q.lead) ≠ N8 (q.z / q.lead)) false (fun _=>(by kernel_rfl)) (fun _=>(by kernel_rfl)) (fun _=>(by kernel_rfl)) ⟨fun h=>absurd h (fun h=>h rfl),fun h=>by cases h⟩ ?_
 refine b6 0 (fun g _=>g) (fun g _=>(by kernel_rfl)) ?_
 intro η_3
 exact j9 (.bool true) rfl (fun S w _ g _=>⟨rfl,g⟩)
theorem ao5 (hS : Up S w) (hp : TripV S w vp p) (h0 : p.None) :
  Gives prog 22 [vp] w fun v' w'=>v' = .bool true ∧ Ext w w':=by
 obtain ⟨a,b,c,rfl,ha,hb,hc⟩:=hp
 rw [h0.1] at ha
 rw [h0.2.1] at hb
 rw [h0.2.2] at hc
 refine n4 (E:=env) (S0:=S) (G:=((n5 a 0).and ((n5 b 0).and (n5 c 0)))) (l:=[.agg [.ag 3 a,.ag 3 b,.ag 3 c]]) func22 rfl rfl rfl ⟨I1 ⟨ha.okc,hb.okc,hc.okc,trivial⟩,trivial⟩ rfl ⟨ha,hb,hc⟩ ?_
 refine n9 (.one (.lit .i64 0)) rfl (fun _ S w _ _ _ g=>(kx (gK (a25 g.1) rfl))) ?_
 refine n9 (.one (.lit .i64 0)) rfl (fun _ S w _ _ _ g=>(kx (gK (a25 g.2.1) rfl))) ?_
 refine n9 (.one (.lit .i64 0)) rfl (fun _ S w _ _ _ g=>(kx (gK (a25 g.2.2) rfl))) ?_
 exact j9 (.bool true) rfl (fun S w _ g _=>⟨rfl,g⟩)
theorem B0 (z : Int) : 0 ≤ IntKind.u64.wrap z:=by
 simp only [IntKind.wrap,IntKind.signed,IntKind.bits]
 exact Int.emod_nonneg _ (by decide)
noncomputable def au6 (a b c : Int) : Int:=if a = 0 ∧ b = 0 ∧ c = 0 then 1 else c
noncomputable def a63 (a b c : Int) : T3:=⟨(a : Rat),(b : Rat),((au6 a b c : Int) : Rat)⟩
abbrev I63 (z : Int) : Prop:=-9223372036854775808 ≤ z ∧ z ≤ 9223372036854775807
theorem dk2 {a b c : Int} (h : I63 c) : I63 (au6 a b c):=by unfold au6; split <;> omega
theorem bg6 {a b c : Int} (hS : Up S w) (ha : I63 a) (hb : I63 b) (hc : I63 c) :
  Gives prog 12 [.int .i64 a,.int .i64 b,.int .i64 c] w fun v' w'=>Ext w w' ∧ QTripV S w' v' (a63 a b c):=by
 have hc2:=dk2 (a:=a) (b:=b) hc
 refine n4 (E:=env) (S0:=S) (G:=Gh.nil) (l:=[.one (.int .i64 a),.one (.int .i64 b),.one (.int .i64 c)]) func12 rfl rfl rfl ⟨trivial,trivial,trivial,trivial⟩ rfl trivial ?_
 refine ac3 (ι:=Int) 0 1 [(2,2),(7,16)] (fun d=>[(2,.one (.int .i64 d))]) (fun _=>[]) (fun _ g=>g) (fun d=>d = au6 a b c) ⟨c8,hS,l8⟩ (by kernel_rfl) (by kernel_rfl) (fun hso=>?_) (fun d hd=>?_)
 ·refine O8 (p:=a = 0) 9 (fun h1=>?_) (fun h1=>?_)
  ·refine O8 (p:=b = 0) 13 (fun h2=>?_) (fun h2=>?_)
   ·refine z7 (p:=c = 0) (fun h3=>?_) (fun h3=>?_)
    ·exact x7 1 hso (by unfold au6; rw [if_pos ⟨h1,h2,h3⟩]) (fun S w _ _=>⟨z8 rfl,fun p hp=>by cases hp⟩) (fun S w _ g=>g)
    exact x7 c hso (by unfold au6; rw [if_neg (fun h=>h3 h.2.2)]) (fun S w _ _=>⟨z8 rfl,fun p hp=>by cases hp⟩) (fun S w _ g=>g)
   exact x7 c hso (by unfold au6; rw [if_neg (fun h=>h2 h.2.1)]) (fun S w _ _=>⟨z8 rfl,fun p hp=>by cases hp⟩) (fun S w _ g=>g)
  exact x7 c hso (by unfold au6; rw [if_neg (fun h=>h1 h.1)]) (fun S w _ _=>⟨z8 rfl,fun p hp=>by cases hp⟩) (fun S w _ g=>g)
 subst hd
 refine o6 4 qG ((a : Int) : Rat) (fun _ S w g _ _ _=>(kx (J2 g ha.1 ha.2))) ?_
 intro x
 refine o6 4 qG ((b : Int) : Rat) (fun _ S w g _ _ _=>(kx (J2 g hb.1 hb.2))) ?_
 intro y
 refine o6 4 qG ((au6 a b c : Int) : Rat) (fun _ S w g _ _ _=>(kx (J2 g hc2.1 hc2.2))) ?_
 intro z
 exact j9 (a42 x y z) rfl (fun S w g d s=>⟨d,_,_,_,rfl,s.2.2.1.mono fun k _ hk=>g k hk,s.2.1.mono fun k _ hk=>g k hk,s.1.mono fun k _ hk=>g k hk⟩)
theorem c20 {a : Nat → Int} : (SV.agg [.int .i64 (a 0),.int .i64 (a 1),.int .i64 (a 2),.int .i64 (a 3),.int .i64 (a 4),.int .i64 (a 5)]).Ok m:=I1 ⟨trivial,trivial,trivial,trivial,trivial,trivial,trivial⟩
def ab3 : List Value:=[.bool false,.slice none 0 0,.slice none 0 0,.bool false]
def RatioV (S : Nat → Prop) (w : World) (v : Value) (q : Rat) (p : Prop) : Prop:=∃ x,v = (SV.agg [.ag 3 x,.tp p]).den (fun _=>0) ∧ RatV S w x q
section
variable {S S' : Nat → Prop} {w w' : World} {v : Value} {q : Rat} {p : Prop}
theorem RatioV.keep (h : RatioV S w v q p) (k : Keeps S w w') : RatioV S w' v q p:=let ⟨x,h1,h2⟩:=h; ⟨x,h1,h2.keep k⟩
theorem RatioV.mono (h : RatioV S w v q p) (hs : ∀ k,k < w.heap.size → S k → S' k) : RatioV S' w v q p:=let ⟨x,h1,h2⟩:=h; ⟨x,h1,h2.mono hs⟩
theorem RatioV.ok (h : RatioV S w v q p) : (SV.one (.ag 4 v)).Ok 0:=by
 obtain ⟨x,rfl,h2⟩:=h
 exact as8 (l:=[.ag 3 x,.tp p]) (I1 (m:=0) ⟨h2.ok,trivial,trivial⟩) rfl
end
theorem bi4 : ∀ v ∈ ab3,v.oneCell' = true:=by
 intro v hv
 simp only [ab3,List.mem_cons,List.not_mem_nil,or_false] at hv
 rcases hv with rfl | rfl | rfl | rfl <;> rfl
theorem b54 : GivesD prog 183 [.pointer (some ⟨g1,0,none⟩),.pointer (some ⟨g2,0,none⟩)] .returning w fun u' w'=>u' = .returning ∧ w' = w:=by
 refine J0 func183 rfl rfl rfl rfl rfl (.inl ⟨rfl,rfl,rfl⟩) ?_
 repeat (first | refine Z4 rfl ?_ | refine wW ?_ | refine wp_skip ?_ | refine wp_cond_false rfl ?_)
 exact ⟨[],rfl,rfl,rfl⟩
theorem cc8 {e : Value} (h1 : Blk w g1 178 cs1) (hl : cs1.length = 4) (h2 : Blk w g2 56 [e]) :
  GivesD prog 183 [.pointer (some ⟨g1,0,none⟩),.pointer (some ⟨g2,0,none⟩)] (.panicking (R5 E)) w fun u' w'=>settle u' = .returning ∧
   Keeps (fun k=>k ≠ g1 ∧ k ≠ g2) w w' ∧ Blk w' g1 178 ab3 ∧ Blk w' g2 56 [.int .i64 E]:=by
 have hne : g1 ≠ g2:=h1.ne h2 (by decide)
 refine J0 func183 rfl rfl rfl rfl rfl (.inr ⟨_,rfl,rfl,rfl⟩) ?_
 repeat (first | refine aj1 rfl ?_ | refine a54 rfl ?_ | refine wW ?_ | refine B4 rfl rfl ?_ | refine wp_cond_true rfl ?_)
 refine q9 (cs:=[.int .i64 0]) rfl ?_
 intro w1 g3 k1 hg3 hgs3
 have hl1:=h1.lt
 have hl2:=h2.lt
 refine F0 (us:=[.int .i64 E]) rfl (by conv=>(lhs; whnf)) rfl rfl hg3 rfl (fun v hv=>by rw [List.mem_singleton.1 hv]; rfl) ?_
 intro w2 k2 hg32
 repeat (first | refine a26 rfl ?_ | refine wW ?_ | refine b8 ?_ | refine wp_skip ?_ | refine wp_cond_false rfl ?_)
 refine q9 (cs:=ab3) rfl ?_
 intro w3 g5 k3 hg5 hgs5
 have k : Ext w w3:=(Keeps.past k1 k2 hgs3).trans k3
 have hg33:=hg32.to k3
 have hl3:=hg32.lt
 repeat refine wW ?_
 refine ba8 (R:=OneW g1 178 cs1 ab3) 4 OneW.trans OneW.drew (by kernel_rfl) (by kernel_rfl) ?_
 apply Q8
 ·intro x w1 k1 hd
  refine o9 rfl (hg5.wr k1.1 (by omega)) rfl ?_
  refine b7 ?_
  exact ap9 OneW.refl
 apply Q8
 ·intro x w1 k1 hd
  refine j4 rfl ?_
  refine b7 ?_
  exact ap9 OneW.refl
 apply Q8
 ·intro x w1 k1 hd
  refine d7 rfl (hg33.wr k1.1 (by omega)) rfl ?_
  refine b7 ?_
  exact ap9 OneW.refl
 refine Q8 (e:=EntR.of (fun v w=>Blk w g1 178 ab3) (fun v w w' h k=>k.2.2 h)) ?_ ?_
 ·intro x w1 k1 hd
  rcases k1.2.1 (.inl (h1.to k)) with hgx | hgx
  ·refine F0 (us:=ab3) rfl (by conv=>(lhs; whnf)) rfl rfl hgx hl bi4 ?_
   intro w12 k12 hg12
   exact b7 (an9 (OneW.wrote k12 hg12) hg12)
  refine F0 (us:=ab3) rfl (by conv=>(lhs; whnf)) rfl rfl hgx rfl bi4 ?_
  intro w12 k12 hg12
  exact b7 (an9 (OneW.wrote k12 hg12) hg12)
 refine bu5 (bx4 ?_)
 intro x w12 k12 hall
 have h14 : Blk w12 g1 178 ab3:=hall.1
 refine O4 (u:=.int .i64 E) rfl rfl ((h2.to k).wr k12.1 (fun e=>hne e.symm)) (show 0 < 1 by decide) rfl ?_
 intro w5 k5 h25
 repeat (first | refine b7 ?_)
 refine ⟨[],rfl,rfl,?_,h14.wr k5 hne,h25⟩
 exact ((Keeps.of k).trans (k12.1.mono fun i hi=>hi.1)).trans (k5.mono fun i hi=>hi.2)
theorem bl6 [ci : CallI prog F] {t : Rat} {p : Prop} (hS : Up S w)
  (h : ∀ S' w',Up S' w' → Ext w w' → (∀ k,S' k → S k) → (∀ k,k < w.heap.size → S k → S' k) → GivesE prog F cap w' (fun v w''=>Ext w' w'' ∧ RatioV S' w'' v t p ∧ Y) fun ch w''=>ch = R5 E ∧ Ext w' w'' ∧ Z) :
  Gives prog 138 [.func (.func F) #[] cap.toArray] w fun v' w'=>Ext w w' ∧ ((∃ x,v' = .tuple #[x,.int .i64 0] ∧ RatioV S w' x t p ∧ Y) ∨ (v' = .tuple #[.agg ab3.toArray,.int .i64 E] ∧ Z)):=by
 refine Y6 func138 rfl rfl rfl ?_
 refine bf0 ?_
 repeat (first | refine af9 ?_)
 refine q9 (cs:=ab3) rfl ?_
 intro w1 g1 k1 hg1 hgs1
 skip
 refine q9 (cs:=[.int .i64 0]) rfl ?_
 intro w2 g2 k2 hg2 hgs2
 have hgl:=hg1.lt
 have hgl2:=hg2.lt
 replace hg1:=hg1.to k2
 have k:=k1.trans k2
 have hk1:=k1.size
 have hk2:=k2.size
 have hS2 : Up (fun k=>S k ∧ k ≠ g1 ∧ k ≠ g2) w2:=fun i hi=>⟨hS i (by omega),by omega,by omega⟩
 have hc:=h (fun k=>S k ∧ k ≠ g1 ∧ k ≠ g2) w2 hS2 k (fun _ h=>h.1) (fun i hi g=>⟨g,by omega,by omega⟩)
 repeat refine wW ?_
 refine ac6 ?_
 refine bf2 ?_ (fun e a ρ w hm hq=>a34 hm hq)
 repeat refine wW ?_
 refine a17 (first:=[]) (cap:=cap) rfl hc rfl ?_ ?_
 ·rintro v3 w3 ⟨k3,hf,hy⟩
  obtain ⟨us,hv,hul,hu1⟩:=hf.ok
  skip
  refine F0 (us:=us) rfl (by conv=>(lhs; whnf)) (by rw [hv]; rfl) hul (hg1.to k3) rfl hu1 ?_
  intro w4 k4 hg4
  have hg24:=(hg2.to k3).wr k4 (by omega)
  refine O4 (u:=.int .i64 0) rfl rfl hg24 (show 0 < 1 by decide) rfl ?_
  intro w5 k5 hg5
  have hg45:=hg4.wr k5 (by omega)
  repeat refine wW ?_
  refine b54.mono ?_
  rintro u' w' ⟨rfl,rfl⟩
  refine ⟨rfl,[.agg us.toArray,.int .i64 0],⟨_,_,n8 hg45 hul,⟨_,_,W0 (by conv=>(lhs; whnf)) hg5,rfl,rfl⟩,rfl⟩,?_⟩
  refine ⟨((Keeps.past (k.trans k3) k4 (by omega)).past k5 (by omega)),.inl ⟨_,rfl,?_,hy⟩⟩
  rw [← hv]
  exact ((hf.keep (k4.mono fun i hi=>hi.2.1)).keep (k5.mono fun i hi=>hi.2.2)).mono fun i _ hi=>hi.1
 rintro ch w3 ⟨rfl,k3,hf⟩
 refine Q4 ?_
 refine (cc8 (hg1.to k3) rfl (hg2.to k3)).mono ?_
 rintro u' w' ⟨hu,k4,h1,h2⟩
 refine ⟨hu,[.agg ab3.toArray,.int .i64 E],⟨_,_,n8 h1 rfl,⟨_,_,W0 (by conv=>(lhs; whnf)) h2,rfl,rfl⟩,rfl⟩,?_⟩
 exact ⟨Keeps.later (k.trans k3) k4 (fun i hi _=>⟨by omega,by omega⟩),.inr ⟨rfl,hf⟩⟩
abbrev rrG (v : Value) (a b : Rat) : Gh:=⟨fun S w=>v = .tuple #[O3 v 0,O3 v 1] ∧ RatV S w (O3 v 0) a ∧ RatV S w (O3 v 1) b,fun h k=>⟨h.1,h.2.1.keep k,h.2.2.keep k⟩,fun h k=>⟨h.1,h.2.1.mono k,h.2.2.mono k⟩⟩
theorem c64 {a b : Rat} (h : (rrG v a b).p S w) : (pr (.ag 3 (O3 v 0)) (.ag 3 (O3 v 1))).Ok 0 ∧ (pr (.ag 3 (O3 v 0)) (.ag 3 (O3 v 1))).den (fun _=>0) = v:=⟨bd0 h.2.1.ok h.2.2.ok,h.1.symm⟩
namespace T3
def over1 (l u : T3) : Rat:=if l.x ≠ 0 then u.x / l.x else if l.y ≠ 0 then u.y / l.y else u.z / l.z
def mPart (p q r : T3) : Rat:=over1 (p.cross q) (r.cross q)
def nPart (p q r : T3) : Rat:=over1 (p.cross q) (p.cross r)
end T3
theorem a22 {l u : T3} (hl : tl l m) (hu : tl u n) (hn : ¬ l.None) : rl (T3.over1 l u) (n + m):=by
 unfold T3.over1
 split
 ·exact al8 hu.1 hl.1 (X5 ‹_›)
 split
 ·exact al8 hu.2.1 hl.2.1 (X5 ‹_›)
 rename_i h1 h2
 refine al8 hu.2.2 hl.2.2 (X5 fun h3=>hn ⟨?_,?_,h3⟩)
 ·exact Classical.not_not.1 h1
 exact Classical.not_not.1 h2
theorem dc9 {q : T3} (hS : Up S w) (hp : TripV S w vp p) (hq : TripV S w vq q) (hr : TripV S w vr r) (hm : tl p m) (hn : tl q m) (hk : tl r m) (hmm : m ≤ 400) (h1 : (p.cross q).x = 0) (h2 : (p.cross q).y = 0) (h0 : (p.cross q).z ≠ 0) :
  Gives prog 141 [vp,vq,vr] w fun v' w'=>Ext w w' ∧ (rrG v' ((r.cross q).z / (p.cross q).z) ((p.cross r).z / (p.cross q).z)).p S w':=by
 have hc:=q7 hm hn
 have hf1 : aa8 ((r.cross q).z / (p.cross q).z):=af1 (al8 (q7 hk hn).2.2 hc.2.2 (X5 h0)) (by omega)
 have hf2 : aa8 ((p.cross r).z / (p.cross q).z):=af1 (al8 (q7 hm hk).2.2 hc.2.2 (X5 h0)) (by omega)
 have hp0:=hp
 have hq0:=hq
 obtain ⟨a1,b1,c1,rfl,ha1,hb1,hc1⟩:=hp
 obtain ⟨a2,b2,c2,rfl,ha2,hb2,hc2⟩:=hq
 obtain ⟨a3,b3,c3,rfl,ha3,hb3,hc3⟩:=hr
 refine n4 (E:=env) (S0:=S) (G:=((n5 a1 p.x).and ((n5 b1 p.y).and ((n5 c1 p.z).and ((n5 a2 q.x).and ((n5 b2 q.y).and ((n5 c2 q.z).and ((n5 a3 r.x).and ((n5 b3 r.y).and (n5 c3 r.z)))))))))) (l:=[.agg [.ag 3 a1,.ag 3 b1,.ag 3 c1],.agg [.ag 3 a2,.ag 3 b2,.ag 3 c2],.agg [.ag 3 a3,.ag 3 b3,.ag 3 c3]]) func141 rfl rfl rfl ⟨I1 ⟨ha1.okc,hb1.okc,hc1.okc,trivial⟩,I1 ⟨ha2.okc,hb2.okc,hc2.okc,trivial⟩,I1 ⟨ha3.okc,hb3.okc,hc3.okc,trivial⟩,trivial⟩ rfl ⟨ha1,hb1,hc1,ha2,hb2,hc2,ha3,hb3,hc3⟩ ?_
 refine ah1 (fun x0=>.agg [.ag 3 (cel x0 0 3),.ag 3 (cel x0 3 3),.ag 3 (cel x0 6 3)]) (fun x0=>ae9 x0 (p.cross q)) (fun _ _ _ h=>ad5 h) (fun _ S w g _ _ d=>(kx ((S6 g ⟨_,_,_,rfl,d.1,d.2.1,d.2.2.1⟩ ⟨_,_,_,rfl,d.2.2.2.1,d.2.2.2.2.1,d.2.2.2.2.2.1⟩ hm hn (by omega)).mono fun v' w' h=>⟨h.1,b37 h.2⟩))) ?_
 intro l
 refine i1 ?_
 refine n9 (.one (.tp ((p.cross q).x = 0))) rfl (fun _ S w g _ _ d=>(kx (D9 g d.1.2.1))) ?_
 refine am0 (p:=(p.cross q).x = 0) h1 ?_
 refine n9 (.one (.tp ((p.cross q).y = 0))) rfl (fun _ S w g _ _ d=>(kx (D9 g d.1.2.2.1))) ?_
 refine am0 (p:=(p.cross q).y = 0) h2 ?_
 refine n9 (.one (.tp ((p.cross q).z = 0))) rfl (fun _ S w g _ _ d=>(kx (D9 g d.1.2.2.2))) ?_
 refine as7 (p:=(p.cross q).z = 0) h0 ?_
 refine a8 24 ?_
 refine a6 6 ?_
 refine f4 3 n5 (r.x * q.y) (fun _ _ S w g _ _ d _=>(kx (A9 g d.2.2.2.2.2.2.2.1 d.2.2.2.2.2.1 hk.1 hn.2.1 (by omega)))) ?_
 refine a6 6 ?_
 refine f4 3 n5 (r.y * q.x) (fun _ _ S w g _ _ d _=>(kx (A9 g d.2.2.2.2.2.2.2.2.1 d.2.2.2.2.1 hk.2.1 hn.1 (by omega)))) ?_
 refine f4 3 n5 (-(r.y * q.x)) (fun _ g S w _ _ _ _ d=>(kx (ba5 (j8 d 13 : (n5 (g 13) (r.y * q.x)).p S w)))) ?_
 refine ab7 53 3 2 (fun x0=>N5 x0 [r.x * q.y,-(r.y * q.x)]) ⟨c8,hS,l8⟩ (fun _=>(by kernel_rfl)) (fun _ g S w x0 w' _ _ _ _ d s hrow=>bn7 ((j8 d 6 : (n5 (g 6) (r.x * q.y)).p S w).to s) ((j8 d 14 : (n5 (g 14) (-(r.y * q.x))).p S w).to s) (kc hrow (by kernel_rfl))) ?_
 refine f4 3 n5 ((r.cross q).z) (fun _ g S w d _ _ _ s=>(kx (ae2 (m:=m + m) (ar9 _ _) d (j8 s 15 : (N5 (g 15) [r.x * q.y,-(r.y * q.x)]).p S w) (be6 (r5 hk.1 hn.2.1) (ab5 (r5 hk.2.1 hn.1))) (by simp only [List.length]; omega)))) ?_
 refine a6 3 ?_
 refine h_1 (fun x0=>pr (.ag 3 (N6 x0)) (.lit .i64 0)) (fun x0=>ax3 x0 ((r.cross q).z / (p.cross q).z) 0) (fun _=>(by kernel_rfl)) (fun _ _ _ h=>aj7 h) (fun _ g S w d _ _ s t=>(kx (bj3 hf1 (bk0 d (j8 t 16 : (n5 (g 16) ((r.cross q).z)).p S w) s.1.2.2.2 (f5 (q7 hk hn).2.2) (f5 hc.2.2) (X5 h0))))) ?_
 refine a6 2 ?_
 refine f4 3 n5 ((r.cross q).z / (p.cross q).z) (fun _ g S w d _ _ _ s=>(kx (aq1 d (j8 s 20 : (ax3 (g 20) ((r.cross q).z / (p.cross q).z) 0).p S w).2))) ?_
 refine b6 1 (fun g d=>(n5 (d 23) ((r.cross q).z / (p.cross q).z)).and g) (fun g _=>(by kernel_rfl)) ?_
 intro η_1
 refine a8 24 ?_
 refine a6 6 ?_
 refine f4 3 n5 (p.x * r.y) (fun _ _ S w g _ _ d _=>(kx (A9 g d.2.2.1 d.2.2.2.2.2.2.2.2.2.1 hm.1 hk.2.1 (by omega)))) ?_
 refine a6 6 ?_
 refine f4 3 n5 (p.y * r.x) (fun _ _ S w g _ _ d _=>(kx (A9 g d.2.2.2.1 d.2.2.2.2.2.2.2.2.1 hm.2.1 hk.1 (by omega)))) ?_
 refine f4 3 n5 (-(p.y * r.x)) (fun _ g S w _ _ _ _ d=>(kx (ba5 (j8 d 13 : (n5 (g 13) (p.y * r.x)).p S w)))) ?_
 refine ab7 53 3 2 (fun x0=>N5 x0 [p.x * r.y,-(p.y * r.x)]) ⟨c8,hS,l8⟩ (fun _=>(by kernel_rfl)) (fun _ g S w x0 w' _ _ _ _ d s hrow=>bn7 ((j8 d 6 : (n5 (g 6) (p.x * r.y)).p S w).to s) ((j8 d 14 : (n5 (g 14) (-(p.y * r.x))).p S w).to s) (kc hrow (by kernel_rfl))) ?_
 refine f4 3 n5 ((p.cross r).z) (fun _ g S w d _ _ _ s=>(kx (ae2 (m:=m + m) (ar9 _ _) d (j8 s 15 : (N5 (g 15) [p.x * r.y,-(p.y * r.x)]).p S w) (be6 (r5 hm.1 hk.2.1) (ab5 (r5 hm.2.1 hk.1))) (by simp only [List.length]; omega)))) ?_
 refine a6 3 ?_
 refine h_1 (fun x0=>pr (.ag 3 (N6 x0)) (.lit .i64 0)) (fun x0=>ax3 x0 ((p.cross r).z / (p.cross q).z) 0) (fun _=>(by kernel_rfl)) (fun _ _ _ h=>aj7 h) (fun _ g S w d _ _ s t=>(kx (bj3 hf2 (bk0 d (j8 t 16 : (n5 (g 16) ((p.cross r).z)).p S w) s.2.1.2.2.2 (f5 (q7 hm hk).2.2) (f5 hc.2.2) (X5 h0))))) ?_
 refine a6 2 ?_
 refine f4 3 n5 ((p.cross r).z / (p.cross q).z) (fun _ g S w d _ _ _ s=>(kx (aq1 d (j8 s 20 : (ax3 (g 20) ((p.cross r).z / (p.cross q).z) 0).p S w).2))) ?_
 refine b6 1 (fun g d=>(n5 (d 23) ((p.cross r).z / (p.cross q).z)).and g) (fun g _=>(by kernel_rfl)) ?_
 intro η_2
 refine a8 4 ?_
 refine a6 2 ?_
 refine cs3 ⟨c8,hS,l8⟩ (fun _=>(by kernel_rfl)) (fun _=>(by kernel_rfl)) ?_
 refine cs3 ⟨c8,hS,l8⟩ (fun _=>(by kernel_rfl)) (fun _=>(by kernel_rfl)) ?_
 refine b6 0 (fun g _=>g) (fun g _=>(by kernel_rfl)) ?_
 intro η_3
 exact j9 (.tuple #[η_1 23,η_2 23]) rfl (fun S w g d s=>⟨d,rfl,s.2.1.mono fun k _ hk=>g k hk,s.1.mono fun k _ hk=>g k hk⟩)
def da7 (p q : T3) : Prop:=∀ {S : Nat → Prop} {w : World} {vp vq vr : Value} {r : T3} {m : Nat},Up S w → TripV S w vp p → TripV S w vq q → TripV S w vr r → tl p m → tl q m → tl r m → m ≤ 400 →
  Gives prog 141 [vp,vq,vr] w fun v' w'=>Ext w w' ∧ (rrG v' (T3.mPart p q r) (T3.nPart p q r)).p S w'
theorem c46 {q : T3} (h1 : (p.cross q).x = 0) (h2 : (p.cross q).y = 0) (h0 : (p.cross q).z ≠ 0) : da7 p q:=by
 intro S w vp vq vr r m hS hp hq hr hm hn hk hmm
 unfold T3.mPart T3.nPart T3.over1
 simp only [h1,h2,ne_eq,not_true_eq_false,if_false]
 exact dc9 hS hp hq hr hm hn hk hmm h1 h2 h0
theorem ff5 {d : Value} {q s : T3} (h1 : TripV S w a p) (h2 : TripV S w b q) (h3 : TripV S w c r) (h4 : TripV S w d s) : ElsV true 9 al6 S w [a,b,c,d] [p,q,r,s]:=by
 refine ⟨rfl,fun x hx=>?_,fun i t x hq hx=>?_⟩
 ·simp only [List.mem_cons,List.not_mem_nil,or_false] at hx
  rcases hx with rfl | rfl | rfl | rfl
  ·exact h1.lies
  ·exact h2.lies
  ·exact h3.lies
  exact h4.lies
 match i with
 | 0=>simp at hq hx; subst hq hx; exact h1
 | 1=>simp at hq hx; subst hq hx; exact h2
 | 2=>simp at hq hx; subst hq hx; exact h3
 | 3=>simp at hq hx; subst hq hx; exact h4
 | i + 4=>simp at hq
theorem d97 {q s : T3} {P : T3 → Prop} (h1 : P p) (h2 : P q) (h3 : P r) (h4 : P s) : ∀ t ∈ [p,q,r,s],P t:=by
 intro t ht
 simp only [List.mem_cons,List.not_mem_nil,or_false] at ht
 rcases ht with rfl | rfl | rfl | rfl
 ·exact h1
 ·exact h2
 ·exact h3
 exact h4
namespace T3
def ratioQ (p q r s : T3) : Rat:=if nPart p q s = 0 then 0 else (mPart p q s * nPart p q r) / (mPart p q r * nPart p q s)
end T3
theorem a79 {a b : Rat} (ha : a ≠ 0) (hb : b ≠ 0) : a * b ≠ 0:=by
 intro h
 rcases Rat.mul_eq_zero.1 h with h | h
 ·exact ha h
 exact hb h
theorem cx1 {u3 u4 : Value} {q s : T3} (hpt : da7 p q) (ht : Tab w) (hS : Up S w) (o1 : u1.oneCell' = true) (o2 : u2.oneCell' = true) (o3 : u3.oneCell' = true) (o4 : u4.oneCell' = true) (h1 : (C0 u1 p).p S w) (h2 : (C0 u2 q).p S w) (h3 : (C0 u3 r).p S w) (h4 : (C0 u4 s).p S w)
  (k1 : tl p m) (k2 : tl q m) (k3 : tl r m) (k4 : tl s m) (hmm : m ≤ 100) (b1 : M9 p = 0) (b2 : M9 q = 0) (b3 : M9 r = 0) (b4 : M9 s = 0) (d1 : ¬ T3.Same p q) (d2 : ¬ T3.Same p r) (d3 : ¬ T3.Same q r) (d4 : T3.Flat p q r) (d5 : T3.Flat p q s) (hm0 : T3.mPart p q r ≠ 0) :
  Gives prog 139 [u1,u2,u3,u4] w fun v' w'=>Ext w w' ∧ RatioV S w' v' (T3.ratioQ p q r s) (T3.nPart p q s = 0):=by
 have rm1 : rl (T3.mPart p q r) (8 * m + 2):=f5 (a22 (q7 k1 k2) (q7 k3 k2) d1)
 have rn1 : rl (T3.nPart p q r) (8 * m + 2):=f5 (a22 (q7 k1 k2) (q7 k1 k3) d1)
 have rm2 : rl (T3.mPart p q s) (8 * m + 2):=f5 (a22 (q7 k1 k2) (q7 k4 k2) d1)
 have rn2 : rl (T3.nPart p q s) (8 * m + 2):=f5 (a22 (q7 k1 k2) (q7 k1 k4) d1)
 refine n4 (E:=env) (S0:=S) (G:=((C0 u1 p).and ((C0 u2 q).and ((C0 u3 r).and (C0 u4 s))))) (l:=[.one (.val u1),.one (.val u2),.one (.val u3),.one (.val u4)]) func139 rfl rfl rfl ⟨o1,o2,o3,o4,trivial⟩ rfl ⟨h1,h2,h3,h4⟩ ?_
 refine o7 (r8 u1 55 9 true (fun x0=>.one (.ag 9 x0)) (fun x0=>j5 x0 p) (fun _ S w _ _ g=>let ⟨y,e1,e2,e3⟩:=g.1; ⟨S,y,e1,e2,e3⟩) ?_)
 intro y1
 refine o7 (r8 u2 55 9 true (fun x0=>.one (.ag 9 x0)) (fun x0=>j5 x0 q) (fun _ S w _ _ g=>let ⟨y,e1,e2,e3⟩:=g.2.2.1; ⟨S,y,e1,e2,e3⟩) ?_)
 intro y2
 refine o7 (r8 u3 55 9 true (fun x0=>.one (.ag 9 x0)) (fun x0=>j5 x0 r) (fun _ S w _ _ g=>let ⟨y,e1,e2,e3⟩:=g.2.2.2.2.1; ⟨S,y,e1,e2,e3⟩) ?_)
 intro y3
 refine o7 (r8 u4 55 9 true (fun x0=>.one (.ag 9 x0)) (fun x0=>j5 x0 s) (fun _ S w _ _ g=>let ⟨y,e1,e2,e3⟩:=g.2.2.2.2.2.2; ⟨S,y,e1,e2,e3⟩) ?_)
 intro y4
 refine ag7 (.und) rfl (fun _ S w g d _ t m=>(kx (ab8 (ht.to t) (A4 g) (Q5 (l:=[p,q,r,s]) 1 55 [y1,y2,y3,y4] d (by kernel_rfl) (ff5 m.2.2.2.1 m.2.2.1 m.2.1 m.1) (show 4 ≤ maxLen by decide)) (d97 (N3 k1 (by omega)) (N3 k2 (by omega)) (N3 k3 (by omega)) (N3 k4 (by omega))) (d97 b1 b2 b3 b4)))) ?_
 refine o7 (r8 u1 55 9 true (fun x0=>.one (.ag 9 x0)) (fun x0=>j5 x0 p) (fun _ S w _ _ g=>let ⟨y,e1,e2,e3⟩:=g.2.2.2.2.1; ⟨S,y,e1,e2,e3⟩) ?_)
 intro t1
 refine o7 (r8 u2 55 9 true (fun x0=>.one (.ag 9 x0)) (fun x0=>j5 x0 q) (fun _ S w _ _ g=>let ⟨y,e1,e2,e3⟩:=g.2.2.2.2.2.2.1; ⟨S,y,e1,e2,e3⟩) ?_)
 intro t2
 refine o7 (r8 u3 55 9 true (fun x0=>.one (.ag 9 x0)) (fun x0=>j5 x0 r) (fun _ S w _ _ g=>let ⟨y,e1,e2,e3⟩:=g.2.2.2.2.2.2.2.2.1; ⟨S,y,e1,e2,e3⟩) ?_)
 intro t3
 refine n9 (.und) rfl (fun _ S w g _ _ d=>(kx (db3 g d.2.2.1 d.2.1 d.1 k1 k2 k3 (by omega) d1 d2 d3 d4))) ?_
 refine o7 (r8 u1 55 9 true (fun x0=>.one (.ag 9 x0)) (fun x0=>j5 x0 p) (fun _ S w _ _ g=>let ⟨y,e1,e2,e3⟩:=g.2.2.2.2.2.2.2.1; ⟨S,y,e1,e2,e3⟩) ?_)
 intro t4
 refine o7 (r8 u2 55 9 true (fun x0=>.one (.ag 9 x0)) (fun x0=>j5 x0 q) (fun _ S w _ _ g=>let ⟨y,e1,e2,e3⟩:=g.2.2.2.2.2.2.2.2.2.1; ⟨S,y,e1,e2,e3⟩) ?_)
 intro t5
 refine o7 (r8 u4 55 9 true (fun x0=>.one (.ag 9 x0)) (fun x0=>j5 x0 s) (fun _ S w _ _ g=>let ⟨y,e1,e2,e3⟩:=g.2.2.2.2.2.2.2.2.2.2.2.2; ⟨S,y,e1,e2,e3⟩) ?_)
 intro t6
 refine n9 (.one (.tp (T3.Flat p q s))) rfl (fun _ S w g _ _ d=>(kx (bv4 g d.2.2.1 d.2.1 d.1 k1 k2 k4 (by omega)))) ?_
 refine as7 (p:=¬ T3.Flat p q s) (fun h=>h d5) ?_
 refine o7 (r8 u1 55 9 true (fun x0=>.one (.ag 9 x0)) (fun x0=>j5 x0 p) (fun _ S w _ _ g=>let ⟨y,e1,e2,e3⟩:=g.2.2.2.2.2.2.2.2.2.2.1; ⟨S,y,e1,e2,e3⟩) ?_)
 intro t7
 refine o7 (r8 u2 55 9 true (fun x0=>.one (.ag 9 x0)) (fun x0=>j5 x0 q) (fun _ S w _ _ g=>let ⟨y,e1,e2,e3⟩:=g.2.2.2.2.2.2.2.2.2.2.2.2.1; ⟨S,y,e1,e2,e3⟩) ?_)
 intro t8
 refine o7 (r8 u3 55 9 true (fun x0=>.one (.ag 9 x0)) (fun x0=>j5 x0 r) (fun _ S w _ _ g=>let ⟨y,e1,e2,e3⟩:=g.2.2.2.2.2.2.2.2.2.2.2.2.2.2.1; ⟨S,y,e1,e2,e3⟩) ?_)
 intro t9
 refine ah1 (fun x0=>pr (.ag 3 (O3 x0 0)) (.ag 3 (O3 x0 1))) (fun x0=>rrG x0 (T3.mPart p q r) (T3.nPart p q r)) (fun _ _ _ h=>c64 h) (fun _ S w g _ _ d=>(kx (hpt g d.2.2.1 d.2.1 d.1 k1 k2 k3 (by omega)))) ?_
 intro a1
 refine o7 (r8 u1 55 9 true (fun x0=>.one (.ag 9 x0)) (fun x0=>j5 x0 p) (fun _ S w _ _ g=>let ⟨y,e1,e2,e3⟩:=g.2.2.2.2.2.2.2.2.2.2.2.2.2.2.1; ⟨S,y,e1,e2,e3⟩) ?_)
 intro ta
 refine o7 (r8 u2 55 9 true (fun x0=>.one (.ag 9 x0)) (fun x0=>j5 x0 q) (fun _ S w _ _ g=>let ⟨y,e1,e2,e3⟩:=g.2.2.2.2.2.2.2.2.2.2.2.2.2.2.2.2.1; ⟨S,y,e1,e2,e3⟩) ?_)
 intro tb
 refine o7 (r8 u4 55 9 true (fun x0=>.one (.ag 9 x0)) (fun x0=>j5 x0 s) (fun _ S w _ _ g=>let ⟨y,e1,e2,e3⟩:=g.2.2.2.2.2.2.2.2.2.2.2.2.2.2.2.2.2.2.2; ⟨S,y,e1,e2,e3⟩) ?_)
 intro tc
 refine ah1 (fun x0=>pr (.ag 3 (O3 x0 0)) (.ag 3 (O3 x0 1))) (fun x0=>rrG x0 (T3.mPart p q s) (T3.nPart p q s)) (fun _ _ _ h=>c64 h) (fun _ S w g _ _ d=>(kx (hpt g d.2.2.1 d.2.1 d.1 k1 k2 k4 (by omega)))) ?_
 intro a2
 refine n9 (.one (.tp (T3.nPart p q s = 0))) rfl (fun _ S w g _ _ d=>(kx (D9 g d.1.2.2))) ?_
 refine z7 (p:=T3.nPart p q s = 0) (fun hb=>?_) (fun hb=>?_)
 ·exact j9 (.agg #[.bool false,.slice none 0 0,.slice none 0 0,.bool true]) rfl (fun S w _ g _=>⟨g,.agg #[.bool false,.slice none 0 0,.slice none 0 0],by rw [← j6 hb]; rfl,by unfold T3.ratioQ; rw [if_pos hb]; exact F2⟩)
 have hmb:=a79 hm0 hb
 have hf : aa8 ((T3.mPart p q s * T3.nPart p q r) / (T3.mPart p q r * T3.nPart p q s)):=af1 (al8 (r5 rm2 rn1) (r5 rm1 rn2) (X5 hmb)) (by omega)
 refine a8 10 ?_
 refine a6 2 ?_
 refine f4 3 n5 (T3.mPart p q s * T3.nPart p q r) (fun _ _ S w g _ _ d _=>(kx (A9 g d.1.2.1 d.2.2.2.2.1.2.2 rm2 rn1 (by omega)))) ?_
 refine a6 2 ?_
 refine f4 3 n5 (T3.mPart p q r * T3.nPart p q s) (fun _ _ S w g _ _ d _=>(kx (A9 g d.2.2.2.2.1.2.1 d.1.2.2 rm1 rn2 (by omega)))) ?_
 refine h_1 (fun x0=>pr (.ag 3 (N6 x0)) (.lit .i64 0)) (fun x0=>ax3 x0 ((T3.mPart p q s * T3.nPart p q r) / (T3.mPart p q r * T3.nPart p q s)) 0) (fun _=>(by kernel_rfl)) (fun _ _ _ h=>aj7 h) (fun _ g S w d _ _ _ t=>(kx (bj3 hf (bk0 d (j8 t 2 : (n5 (g 2) (T3.mPart p q s * T3.nPart p q r)).p S w) (j8 t 5 : (n5 (g 5) (T3.mPart p q r * T3.nPart p q s)).p S w) (f5 (r5 rm2 rn1)) (f5 (r5 rm1 rn2)) (X5 hmb))))) ?_
 refine a6 2 ?_
 refine f4 3 n5 ((T3.mPart p q s * T3.nPart p q r) / (T3.mPart p q r * T3.nPart p q s)) (fun _ g S w d _ _ _ t=>(kx (aq1 d (j8 t 6 : (ax3 (g 6) ((T3.mPart p q s * T3.nPart p q r) / (T3.mPart p q r * T3.nPart p q s)) 0).p S w).2))) ?_
 refine b6 1 (fun g d=>(n5 (d 9) ((T3.mPart p q s * T3.nPart p q r) / (T3.mPart p q r * T3.nPart p q s))).and g) (fun g _=>(by kernel_rfl)) ?_
 intro η_1
 exact j9 ((SV.agg [.ag 3 (η_1 9),.bb false]).den (fun _=>0)) rfl (fun S w g d s=>⟨d,η_1 9,by rw [← j2 hb]; rfl,by unfold T3.ratioQ; rw [if_neg hb]; exact s.1.mono fun k _ hk=>g k hk⟩)
theorem Gh.at' (G : Gh) (h : G.p S w) (hs : ∀ k,k < w.heap.size → S k → S' k) (k : Ext w w') : G.p S' w':=G.keep (G.mono h hs) (.of k)
theorem ct2 {F : Value → Gh} (h : (ch7 u T (d6 (fun _=>0) [.ag n v])).p S w) (hl : P6 true n v) (hF : (F v).p S w) : (atG true n F u).p S w:=by
 obtain ⟨b,rfl,hs,hB⟩:=h
 rw [Y9] at hB
 exact ⟨v,hl,⟨b,0,v.cells.toList.toArray,T,(0,0),rfl,hs,hB,by simp,by rw [List.drop_zero]; exact List.take_of_length_le (Nat.le_refl _)⟩,hF⟩
abbrev cq7 (S : Nat → Prop) (w : World) (Q : (Nat → Prop) → World → Prop) : Prop:=∀ S' w',Up S' w' → Ext w w' → (∀ k,S' k → S k) → (∀ k,k < w.heap.size → S k → S' k) → Q S' w'
namespace T3
end T3
theorem fd6 (F : FuncId) [ci : CallI prog F] (cap : List Value) {t : Rat} {p : Prop} (hS : Up S w) (h0 : E = 0 → cq7 S w fun S' w'=>Gives prog F cap w' fun v w''=>Ext w' w'' ∧ RatioV S' w'' v t p) (h1 : ¬ E = 0 → cq7 S w fun S' w'=>Pan prog F cap w' (R5 E)) :
  Gives prog 138 [.func (.func F) #[] cap.toArray] w fun v' w'=>Ext w w' ∧ ∃ x,v' = .tuple #[x,.int .i64 E] ∧ RatioV S w' x (if E = 0 then t else 0) (E = 0 ∧ p):=by
 by_cases e : E = 0
 ·refine (bl6 (F:=F) (cap:=cap) (t:=t) (p:=p) (E:=0) (Y:=True) (Z:=False) hS fun S' w' hS' k' hs hs'=>Gives.toE ((h0 e S' w' hS' k' hs hs').mono fun v w'' h=>⟨h.1,h.2,trivial⟩)).mono ?_
  rintro v' w' ⟨k',h⟩
  obtain ⟨x,rfl,h,_⟩:=h.resolve_right fun h=>h.2
  refine ⟨k',x,by rw [e],?_⟩
  rw [if_pos e,show (E = 0 ∧ p) = p from propext ⟨fun h=>h.2,fun h=>⟨e,h⟩⟩]
  exact h
 refine (bl6 (F:=F) (cap:=cap) (t:=t) (p:=p) (E:=E) (Y:=False) (Z:=True) hS fun S' w' hS' k' hs hs'=>(h1 e S' w' hS' k' hs hs').mono (fun _ _ h=>h.elim) fun ch w'' h=>⟨h.1,h.2,trivial⟩).mono ?_
 rintro v' w' ⟨k',⟨x,rfl,h,hf⟩ | ⟨rfl,_⟩⟩
 ·exact hf.elim
 refine ⟨k',_,rfl,?_⟩
 rw [if_neg e]
 refine ⟨.agg #[.bool false,.slice none 0 0,.slice none 0 0],?_,F2⟩
 have e2 : tst (E = 0 ∧ p) = false:=j2 fun h=>e h.1
 show (Value.agg ab3.toArray) = _
 rw [show (SV.agg [.ag 3 (.agg #[.bool false,.slice none 0 0,.slice none 0 0]),.tp (E = 0 ∧ p)]).den (fun _=>0) = .agg #[.bool false,.slice none 0 0,.slice none 0 0,.bool (tst (E = 0 ∧ p))] from by simp [SV.den,d6,Ch.cells,Ch.den,Value.cells],e2]
 rfl
abbrev ci4 (v : Value) (t : T3) : Gh:=⟨fun S w=>v = .tuple #[O3 v 0,.int .i64 0] ∧ (ae9 (O3 v 0) t).p S w,fun h k=>⟨h.1,(ae9 _ t).keep h.2 k⟩,fun h k=>⟨h.1,(ae9 _ t).mono h.2 k⟩⟩
theorem c04 (h : (ci4 v t).p S w) : (SV.tup [(true,[.ag 3 (cel (O3 v 0) 0 3),.ag 3 (cel (O3 v 0) 3 3),.ag 3 (cel (O3 v 0) 6 3)]),(false,[.lit .i64 0])]).Ok 0 ∧ (SV.tup [(true,[.ag 3 (cel (O3 v 0) 0 3),.ag 3 (cel (O3 v 0) 3 3),.ag 3 (cel (O3 v 0) 6 3)]),(false,[.lit .i64 0])]).den (fun _=>0) = v:=by
 refine ⟨fun p hp c hc=>?_,?_⟩
 ·simp only [List.mem_cons,List.not_mem_nil,or_false] at hp
  rcases hp with rfl | rfl
  ·exact (ad5 h.2).1 c hc
  simp only [List.mem_cons,List.not_mem_nil,or_false] at hc
  subst hc
  trivial
 conv=>rhs; rw [h.1,h.2.1]
 rfl
theorem c37 (h : (W6 v t 0).p S w) : (ci4 v t).p S w:=⟨h.1,b37 h.2⟩
abbrev dr3 (v : Value) (q : Rat) : Gh:=⟨fun S w=>v = .tuple #[O3 v 0,.bool false,.int .i64 0] ∧ RatV S w (O3 v 0) q,fun h k=>⟨h.1,h.2.keep k⟩,fun h k=>⟨h.1,h.2.mono k⟩⟩
theorem dk1 (h : (dr3 v q).p S w) : (SV.tup [(true,[.ag 3 (O3 v 0)]),(false,[.bb false]),(false,[.lit .i64 0])]).Ok 0 ∧ (SV.tup [(true,[.ag 3 (O3 v 0)]),(false,[.bb false]),(false,[.lit .i64 0])]).den (fun _=>0) = v:=by
 refine ⟨fun p hp c hc=>?_,?_⟩
 ·simp only [List.mem_cons,List.not_mem_nil,or_false] at hp
  rcases hp with rfl | rfl | rfl <;> (simp only [List.mem_cons,List.not_mem_nil,or_false] at hc; subst hc)
  ·exact h.2.okc
  ·trivial
  trivial
 conv=>rhs; rw [h.1]
 obtain ⟨m,b,hv,_⟩:=h.2
 rw [hv]
 rfl
theorem bs8 : ah4 t.list ↔ t.None:=by
 unfold ah4 T3.None T3.list
 simp only [List.mem_cons,List.not_mem_nil,or_false,not_exists,not_and,Classical.not_not,forall_eq_or_imp,forall_eq]
theorem bi0 (h : rl q k) (hk : k ≤ 4) : ¬ aa6 q:=by
 have h2:=L7 q.num.natAbs (show dl q.num.natAbs ≤ k from h.1)
 have h3:=L7 q.den (show dl q.den ≤ k from h.2)
 unfold aa6
 omega
theorem av8 (h : tl t k) (hk : k ≤ 4) (hn : ¬ t.None) : M9 t = 0:=by
 unfold M9
 rw [if_neg (fun e=>hn (bs8.1 e)),if_neg]
 rintro ⟨x,hx,hl⟩
 exact bi0 (aj0 h x hx) hk hl
def P1 : T3:=⟨1,0,0⟩
def P2 : T3:=⟨0,2,0⟩
def P3 : T3:=⟨1,1,0⟩
def P4 : T3:=⟨1,2,0⟩
theorem I9 (h1 : q.num.natAbs < 1000000000) (h2 : q.den < 1000000000) : rl q 1:=⟨G9 (k:=1) (by omega),G9 (k:=1) (by omega)⟩
theorem b88 : tl P1 1:=⟨I9 (by decide) (by decide),I9 (by decide) (by decide),I9 (by decide) (by decide)⟩
theorem cp7 : tl P2 1:=⟨I9 (by decide) (by decide),I9 (by decide) (by decide),I9 (by decide) (by decide)⟩
theorem da5 : tl P3 1:=⟨I9 (by decide) (by decide),I9 (by decide) (by decide),I9 (by decide) (by decide)⟩
theorem df8 : tl P4 1:=⟨I9 (by decide) (by decide),I9 (by decide) (by decide),I9 (by decide) (by decide)⟩
theorem ck8 : M9 P1 = 0:=av8 b88 (by decide) (by decide +kernel)
theorem da2 : M9 P2 = 0:=av8 cp7 (by decide) (by decide +kernel)
theorem d06 : M9 P3 = 0:=av8 da5 (by decide) (by decide +kernel)
theorem d18 : M9 P4 = 0:=av8 df8 (by decide) (by decide +kernel)
theorem cn7 : ¬ T3.Same P1 P2:=by decide +kernel
theorem dj2 : ¬ T3.Same P1 P3:=by decide +kernel
theorem dq0 : ¬ T3.Same P2 P3:=by decide +kernel
theorem c78 : T3.Flat P1 P2 P3:=by decide +kernel
theorem de4 : T3.Flat P1 P2 P4:=by decide +kernel
theorem co8 : (P1.cross P2).normal = ⟨0,0,1⟩:=by
 have h : (P1.cross P2).normal.x = 0 ∧ (P1.cross P2).normal.y = 0 ∧ (P1.cross P2).normal.z = 1:=by decide +kernel
 exact T3.ext h.1 h.2.1 h.2.2
def L1 : T3:=⟨0,0,1⟩
theorem cs8 : tl L1 1:=⟨I9 (by decide) (by decide),I9 (by decide) (by decide),I9 (by decide) (by decide)⟩
theorem dy6 : M9 L1 = 0:=av8 cs8 (by decide) (by decide +kernel)
theorem d26 : ad6 P1 P2 = 0:=by unfold ad6; rw [if_pos ck8,da2]
theorem b71 : ad0 P1 P2 = 0:=by unfold ad0; rw [if_pos d26,if_neg cn7]
theorem de9 : a50 P1 P2 = L1:=by unfold a50; rw [if_pos b71,co8]; rfl
theorem dh7 : ad6 P1 L1 = 0:=by unfold ad6; rw [if_pos ck8,dy6]
theorem fa7 : OnP P1 L1:=⟨dh7,by decide +kernel⟩
theorem nP : ¬ T3.nPart P1 P2 P4 = 0:=by decide +kernel
theorem db8 : T3.ratioQ P1 P2 P3 P4 = 1 / 2:=by decide +kernel
theorem cv1 : N8 (1 / 2 : Rat) = [49,47,50]:=by
 have h1 : (1 / 2 : Rat).num = 1:=by decide +kernel
 have h2 : (1 / 2 : Rat).den = 2:=by decide +kernel
 unfold N8 Lib.itoa
 rw [h1,h2,if_neg (by decide),if_neg (by decide),show (1 : Int).toNat = 1 from rfl,Lib.decDigits_one (by decide),Lib.decDigits_one (by decide)]
 rfl
theorem dj8 : N8 (1 : Rat) = [49]:=by
 have h1 : (1 : Rat).num = 1:=rfl
 have h2 : (1 : Rat).den = 1:=rfl
 unfold N8 Lib.itoa
 rw [h1,h2,if_neg (by decide),if_pos rfl,show (1 : Int).toNat = 1 from rfl,Lib.decDigits_one (by decide)]
 rfl
theorem ak3 (hS : Up S w) : Gives prog 45 [.int .i64 1,.int .i64 1] w fun v' w'=>Ext w w' ∧ QV S w' v' (1 : Rat):=J2 (a:=1) hS (by decide) (by decide)
theorem b33 (hS : Up S w) : Gives prog 45 [.int .i64 2,.int .i64 1] w fun v' w'=>Ext w w' ∧ QV S w' v' (2 : Rat):=J2 (a:=2) hS (by decide) (by decide)
end Go.Proofs.YtmkhgjccoolfjaaGreatDoor
end

/- Part 1. -/
import Derived.WalkKit
import Derived.WalkLawsBesides
import Derived.WalkSpells
import Derived.Orders
import Derived.Defers
import Derived.Recover
import Derived.Test.YtmkhgjccoolfjaaGreatDoorProg
import Derived.KernelRfl
import Derived.StillTail
import Derived.Lib.SliceRun
set_option linter.unusedSimpArgs false
set_option linter.unusedVariables false
set_option maxRecDepth 100000
set_option maxHeartbeats 8000000
section
namespace Go.Proofs.YtmkhgjccoolfjaaGreatDoor
open Go Go.RowKit Tryz
variable {p q : Prop} {i n b j b' cap s g m off : Nat} {v u v2 z : Value} {D : List Deferred} {a : Int} {o : Oper} {P : Program} {f : FuncId} {args cs ds us first zs : List Value} {w w1 w2 w' w0 : World} {Ψ : Value → World → Prop} {σ : Operand → Value} {c x y ix : Operand} {W : List (Nat × Nat)} {l : List Operand} {rest : List Oper} {dst : Option Tmp} {op : Op} {ty t T T' xt yt src : TypeId} {pos : String} {aft : Array Edge} {want agg : Bool} {S S' : Nat → Prop} {k k0 : IntKind} {ts : Array TypeId} {kf : FloatKind} {Φ : List PanicEntry → World → Prop} {ch : List PanicEntry} {pl : Nat → Option (Nat × Nat)} {r r2 : ResultVar}
theorem kx {α : Sort _} {p : α → Prop} {a b : α} (h : p b) (e : a = b:=by kernel_rfl) : ∃ x,a = x ∧ p x:=⟨b,e,h⟩
@[irreducible] noncomputable def tst (p : Prop) : Bool:=@decide p (Classical.propDecidable p)
theorem j6 (h : p) : tst p = true:=by unfold tst; exact @decide_eq_true p (Classical.propDecidable p) h
theorem j2 (h : ¬ p) : tst p = false:=by unfold tst; exact @decide_eq_false p (Classical.propDecidable p) h
theorem d54 (h : tst p = true) : p:=by unfold tst at h; exact @of_decide_eq_true p (Classical.propDecidable p) h
theorem cd5 (h : tst p = false) : ¬ p:=by unfold tst at h; exact @of_decide_eq_false p (Classical.propDecidable p) h
theorem U1 [Decidable p] : decide p = tst p:=by
 by_cases h : p
 ·rw [j6 h,decide_eq_true h]
 rw [j2 h,decide_eq_false h]
theorem be8 : (!tst p) = tst (¬ p):=by
 by_cases h : p
 ·rw [j6 h,j2 (fun k=>k h)]; rfl
 rw [j2 h,j6 h]; rfl
abbrev Fr:=Nat → Value
variable {ρ ρ' : Fr} {K : Fr → World → Prop}
def upd (ρ : Fr) (d : Nat) (v : Value) : Fr:=fun i=>bif Nat.beq i d then v else ρ i
def ar1 (ρ : Fr) (d : Option Tmp) (v : Value) : Fr:=match d with | none=>ρ | some d=>upd ρ d v
def ev (ρ : Fr) (x : Operand) : Value:=match x with
 | .tmp t=>ρ t
 | .const v=>v
 | .global g=>.pointer (some ⟨g,0,none⟩)
 | .func f=>.func (.func f) #[] #[]
theorem A8 (ρ : Fr) (d : Nat) (v : Value) : upd ρ d v d = v:=by simp [upd]
theorem Q6 {d : Nat} (h : Nat.beq i d = false) : upd ρ d v i = ρ i:=by simp [upd,h]
theorem a62 {d : Nat} (h : ρ d = v) : upd ρ d v = ρ:=by
 funext i
 unfold upd
 cases hb : Nat.beq i d with
 | false=>rfl
 | true=>rw [Nat.eq_of_beq_eq_true hb,h]; rfl
def aa5 (n : Nat) (o : Oper) : Bool:=match o.dst with | none=>true | some d=>Nat.blt d n
def O5 (n : Nat) : Code → Bool
 | .region _ ops _=>ops.toList.all (aa5 n)
 | .seq a b=>O5 n a && O5 n b
 | .cond _ a b=>O5 n a && O5 n b
 | .block _ c=>O5 n c
 | .loop c=>O5 n c
 | .scope c=>O5 n c
 | .rangeFunc _ _ _ _=>false
 | _=>true
structure Mt (n : Nat) (D : List Deferred) (a : Act) (ρ : Fr) : Prop where
 size : a.tmps.size = n
 defers : a.defers = D
 get : ∀ i,a.tmps.getD i undef = ρ i
theorem Mt.eval {a : Act} (h : Mt n D a ρ) : a.eval = ev ρ:=by
 funext x
 cases x with
 | tmp t=>exact h.get t
 | _=>rfl
theorem Mt.put {a : Act} (h : Mt n D a ρ) {d : Nat} (hd : Nat.blt d n = true) (v : Value) : Mt n D (a.put (some d) v) (upd ρ d v):=by
 have hd' : d < n:=Nat.le_of_ble_eq_true hd
 refine ⟨by simp [Act.put,h.size],h.defers,fun i=>?_⟩
 by_cases e : i = d
 ·subst e
  rw [A8]
  simp [Act.put,Array.getD,h.size,hd']
 have hb : Nat.beq i d = false:=by
  cases hb : Nat.beq i d with
  | false=>rfl
  | true=>exact absurd (Nat.eq_of_beq_eq_true hb) e
 rw [Q6 hb,← h.get i]
 have e' : d ≠ i:=fun x=>e x.symm
 simp [Act.put,Array.getD_eq_getD_getElem?,Array.getElem?_setIfInBounds_ne e']
theorem Mt.putO {a : Act} (h : Mt n D a ρ) (hd : aa5 n o = true) (v : Value) : Mt n D (a.put o.dst v) (ar1 ρ o.dst v):=by
 unfold aa5 at hd
 cases ho : o.dst with
 | none=>exact h
 | some d=>rw [ho] at hd; exact h.put hd v
abbrev G8:=Exit → Fr → World → Prop
variable {Q : G8}
def bo5 (n : Nat) (D : List Deferred) (Q : G8) : Exit → Act → World → Prop:=fun e a w=>∃ ρ,Mt n D a ρ ∧ Q e ρ w
def Wp (P : Program) (n : Nat) (c : Code) (Q : G8) (ρ : Fr) (w : World) : Prop:=
 O5 n c = true → ∀ D a,Mt n D a ρ → c.wp P (bo5 n D Q) a w
def L6 (K : Fr → World → Prop) (Q : G8) : G8:=fun e ρ w=>match e with | .normal=>K ρ w | e=>Q e ρ w
def J5 (id : Nat) (Q : G8) : G8:=fun e ρ w=>match e with | .exit i=>(bif Nat.beq i id then Q .normal ρ w else Q (.exit i) ρ w) | e=>Q e ρ w
def Gives (P : Program) (f : FuncId) (args : List Value) (w : World) (Ψ : Value → World → Prop) : Prop:=
 Calls P f args.toArray w fun e w'=>∃ v,e = .returned v ∧ Ψ v w'
theorem Gives.mono {Φ : Value → World → Prop} (h : Gives P f args w Ψ) (k : ∀ v w',Ψ v w' → Φ v w') : Gives P f args w Φ:=
 Calls.mono h fun _ _ ⟨v,he,hv⟩=>⟨v,he,k _ _ hv⟩
def Stp (P : Program) (σ : Operand → Value) (o : Oper) (w : World) (K : Value → World → Prop) : Prop:=
 match (execOp σ o).run P w with
 | .ok (.value v) w'=>K v w'
 | .ok .skip w'=>K undef w'
 | .ok (.enter f args) w'=>Gives P f args.toList w' K
 | _=>False
theorem Stp.mono {K K' : Value → World → Prop} (h : Stp P σ o w K) (k : ∀ v w',K v w' → K' v w') : Stp P σ o w K':=by
 unfold Stp at *
 split <;> rename_i hr <;> simp only [hr] at h
 ·exact k _ _ h
 ·exact k _ _ h
 exact h.mono k
theorem Stp.wp {a : Act} {K : Act → World → Prop} {Q : Exit → Act → World → Prop} (hσ : a.eval = σ)
  (h : Stp P σ o w (fun v w'=>K (a.put o.dst v) w')) : o.wp P a w K Q:=by
 unfold Stp at h
 unfold Oper.wp
 rw [hσ]
 generalize (execOp σ o).run P w = r at h
 split at h
 ·exact h
 ·exact h
 ·show Calls _ _ _ _ _
  unfold Gives at h
  simp only [Array.toArray_toList] at h
  exact Calls.mono h fun e w' ⟨v,he,hk⟩=>by subst he; exact hk
 exact h.elim
def WpR (P : Program) (n : Nat) (all : List Oper) (Q : G8) (l : List Oper) (ρ : Fr) (w : World) : Prop:=
 l.all (aa5 n) = true → ∀ D a,Mt n D a ρ → wpList P all.toArray (bo5 n D Q) l a w
section rules
variable {P : Program} {n : Nat} {Q : G8} {ρ : Fr} {w : World}
theorem wp_seq {a b : Code} (h : Wp P n a (L6 (fun ρ w=>Wp P n b Q ρ w) Q) ρ w) : Wp P n (.seq a b) Q ρ w:=by
 intro hc D act hm
 simp only [O5,Bool.and_eq_true] at hc
 refine Go.wp_seq (Go.wp_mono (h hc.1 _ act hm) ?_)
 rintro e a' w' ⟨ρ',hm',hq⟩
 cases e with
 | normal=>exact hq hc.2 _ a' hm'
 | _=>exact ⟨ρ',hm',hq⟩
theorem wp_skip (h : Q .normal ρ w) : Wp P n .skip Q ρ w:=fun _ D a hm=>Go.wp_skip ⟨ρ,hm,h⟩
theorem wp_exit (h : Q (.exit i) ρ w) : Wp P n (.exit i) Q ρ w:=fun _ D a hm=>Go.wp_exit ⟨ρ,hm,h⟩
theorem wp_ret (h : Q .ret ρ w) : Wp P n .ret Q ρ w:=fun _ D a hm=>Go.wp_ret ⟨ρ,hm,h⟩
theorem wp_block {c : Code} (h : Wp P n c (J5 i Q) ρ w) : Wp P n (.block i c) Q ρ w:=by
 intro hc D act hm
 refine Go.wp_block (Go.wp_mono (h hc _ act hm) ?_)
 rintro e a' w' ⟨ρ',hm',hq⟩
 cases e with
 | exit j=>
  simp only [Exit.inBlock]
  by_cases e : j = i
  ·subst e
   rw [if_pos rfl]
   simp only [J5,Nat.beq_refl,cond_true] at hq
   exact ⟨ρ',hm',hq⟩
  rw [if_neg e]
  have hb : Nat.beq j i = false:=by
   cases hb : Nat.beq j i with
   | false=>rfl
   | true=>exact absurd (Nat.eq_of_beq_eq_true hb) e
  simp only [J5,hb,cond_false] at hq
  exact ⟨ρ',hm',hq⟩
 | _=>exact ⟨ρ',hm',hq⟩
theorem wp_cond_true {x y : Code} (hc : ev ρ c = .bool true) (h : Wp P n x Q ρ w) : Wp P n (.cond c x y) Q ρ w:=by
 intro hok D act hm
 simp only [O5,Bool.and_eq_true] at hok
 exact Go.wp_cond_true (by rw [hm.eval]; exact hc) (h hok.1 _ act hm)
theorem wp_cond_false {x y : Code} (hc : ev ρ c = .bool false) (h : Wp P n y Q ρ w) : Wp P n (.cond c x y) Q ρ w:=by
 intro hok D act hm
 simp only [O5,Bool.and_eq_true] at hok
 exact Go.wp_cond_false (by rw [hm.eval]; exact hc) (h hok.2 _ act hm)
theorem dt2 {x y : Code} {b : Bool} (hc : ev ρ c = .bool b) (ht : b = true → Wp P n x Q ρ w) (hf : b = false → Wp P n y Q ρ w) : Wp P n (.cond c x y) Q ρ w:=by
 cases b
 ·exact wp_cond_false hc (hf rfl)
 exact wp_cond_true hc (ht rfl)
theorem j3 {x y : Code} (hc : ev ρ c = .bool (tst p)) (ht : p → Wp P n x Q ρ w) (hf : ¬ p → Wp P n y Q ρ w) : Wp P n (.cond c x y) Q ρ w:=
 dt2 hc (fun h=>ht (d54 h)) (fun h=>hf (cd5 h))
theorem bc2 {x y : Code} (hc : ev ρ c = .bool (tst p)) (hp : p) (h : Wp P n x Q ρ w) : Wp P n (.cond c x y) Q ρ w:=wp_cond_true (by rw [hc,j6 hp]) h
theorem bl5 {x y : Code} (hc : ev ρ c = .bool (tst p)) (hp : ¬ p) (h : Wp P n y Q ρ w) : Wp P n (.cond c x y) Q ρ w:=wp_cond_false (by rw [hc,j2 hp]) h
theorem j7 {c : Code} (d : Nat) (h : ρ d = v) (k : Wp P n c Q (upd ρ d v) w) : Wp P n c Q ρ w:=by rwa [a62 h] at k
theorem wp_mono {c : Code} {Q' : G8} (h : Wp P n c Q ρ w) (k : ∀ e ρ w,Q e ρ w → Q' e ρ w) : Wp P n c Q' ρ w:=
 fun hc D a hm=>Go.wp_mono (h hc _ a hm) fun _ _ _ ⟨ρ',hm',hq⟩=>⟨ρ',hm',k _ _ _ hq⟩
def inW : List (Nat × Nat) → Nat → Bool
 | [],_=>false
 | (a,b) :: r,i=>bif Nat.ble a i then (bif Nat.ble i b then true else inW r i) else inW r i
def aa4 (W : List (Nat × Nat)) (ρ ρ' : Fr) : Prop:=∀ i,inW W i = false → ρ' i = ρ i
theorem b9 : aa4 W ρ ρ:=fun _ _=>rfl
theorem i7 {d : Nat} (hd : inW W d = true) (h : aa4 W ρ ρ') : aa4 W ρ (upd ρ' d v):=by
 intro i hi
 rw [Q6,h i hi]
 cases hb : Nat.beq i d with
 | false=>rfl
 | true=>rw [Nat.eq_of_beq_eq_true hb,hd] at hi; cases hi
def over (W : List (Nat × Nat)) (u ρ : Fr) : Fr:=fun i=>bif inW W i then u i else ρ i
theorem ak5 (h : aa4 W ρ ρ') : ρ' = over W ρ' ρ:=by
 funext i
 unfold over
 cases hi : inW W i with
 | true=>rfl
 | false=>exact h i hi
theorem c7 {u : Fr} : aa4 W ρ (over W u ρ):=by
 intro i hi
 unfold over
 rw [hi]
 rfl
def fe1 (V W : List (Nat × Nat)) : Bool:=V.all fun p=>W.any fun q=>Nat.ble q.1 p.1 && Nat.ble p.2 q.2
theorem ct0 : inW W i = true ↔ ∃ p ∈ W,p.1 ≤ i ∧ i ≤ p.2:=by
 induction W with
 | nil=>simp [inW]
 | cons p r ih=>
  obtain ⟨a,b⟩:=p
  simp only [inW,List.mem_cons,exists_eq_or_imp]
  cases ha : Nat.ble a i with
  | false=>
   have : ¬ a ≤ i:=fun h=>by rw [Nat.ble_eq_true_of_le h] at ha; cases ha
   simp [ih,this]
  | true=>
   have ha':=Nat.le_of_ble_eq_true ha
   cases hb : Nat.ble i b with
   | false=>
    have : ¬ i ≤ b:=fun h=>by rw [Nat.ble_eq_true_of_le h] at hb; cases hb
    simp [ih,this]
   | true=>
    have hb':=Nat.le_of_ble_eq_true hb
    simp [ha',hb']
theorem j1 {V : List (Nat × Nat)} {u : Fr} (hs : fe1 V W = true) (h : aa4 W ρ ρ') : aa4 W ρ (over V u ρ'):=by
 intro i hi
 unfold over
 cases hv : inW V i with
 | false=>exact h i hi
 | true=>
  obtain ⟨p,hp,h1,h2⟩:=ct0.1 hv
  have h3:=List.all_eq_true.1 hs p hp
  obtain ⟨q,hq,h4⟩:=List.any_eq_true.1 h3
  simp only [Bool.and_eq_true] at h4
  have:=ct0.2 ⟨q,hq,Nat.le_trans (Nat.le_of_ble_eq_true h4.1) h1,Nat.le_trans h2 (Nat.le_of_ble_eq_true h4.2)⟩
  rw [hi] at this
  cases this
theorem dl4 {c : Code} (W : List (Nat × Nat)) (I : Nat → Fr → World → Prop) (k0 : Nat) (h0 : I k0 ρ w)
  (round : ∀ k u w',I k (over W u ρ) w' → Wp P n c (L6 (fun ρ' w''=>aa4 W ρ ρ' ∧ ∃ k',k' < k ∧ I k' ρ' w'') Q) (over W u ρ) w') :
  Wp P n (.loop c) Q ρ w:=by
 intro hc D act hm b K cs
 have key : ∀ k act w' ρ',Mt n D act ρ' → aa4 W ρ ρ' → I k ρ' w' →
   ∃ e a' w'',bo5 n D Q e a' w'' ∧ Arrives P (lone (b.at act (.code c :: .inLoop c :: K)) cs w') b K cs e a' w'':=by
  intro k
  induction k using Nat.strongRecOn with
  | _ k ih=>
   intro act w' ρ' hm' hag hI
   have ho:=ak5 hag
   rw [ho] at hI
   obtain ⟨e,a₁,w₁,⟨ρ₁,hm₁,hq⟩,harr⟩:=round k ρ' w' hI hc _ act (ho ▸ hm') b (.inLoop c :: K) cs
   cases e with
   | normal=>
    obtain ⟨hag₁,k',hlt,hI₁⟩:=hq
    obtain ⟨e₂,a₂,w₂,hq₂,harr₂⟩:=ih k' hlt a₁ w₁ ρ₁ hm₁ hag₁ hI₁
    exact ⟨e₂,a₂,w₂,hq₂,.of_steps (Steps.trans harr (.one step_inLoop)) harr₂⟩
   | exit id=>exact ⟨_,a₁,w₁,⟨ρ₁,hm₁,hq⟩,.pass (x:=.inLoop c) rfl (fun _ _=>.inl (by simp)) harr⟩
   | goto l=>exact ⟨_,a₁,w₁,⟨ρ₁,hm₁,hq⟩,.pass (x:=.inLoop c) rfl (fun _ _=>.inl (by simp)) harr⟩
   | ret=>exact ⟨_,a₁,w₁,⟨ρ₁,hm₁,hq⟩,.pass (x:=.inLoop c) rfl (fun _ _=>.inl (by simp)) harr⟩
   | panic ch=>exact ⟨_,a₁,w₁,⟨ρ₁,hm₁,hq⟩,.pass (x:=.inLoop c) rfl (fun _ _=>.inl (by simp)) harr⟩
   | outgrown=>exact ⟨_,a₁,w₁,⟨ρ₁,hm₁,hq⟩,.pass (x:=.inLoop c) rfl (fun _ _=>.inl (by simp)) harr⟩
 obtain ⟨e,a',w',hq,harr⟩:=key k0 act w ρ hm b9 h0
 exact ⟨e,a',w',hq,.of_steps (.one step_loop) harr⟩
theorem F4 {c : Code} (W : List (Nat × Nat)) (I : Nat → Fr → World → Prop) (k0 : Nat) (h0 : I k0 ρ w)
  (round : ∀ k u w',I k (over W u ρ) w' → Wp P n c (L6 (fun ρ' w''=>aa4 W ρ ρ' ∧ ∃ k',k' < k ∧ I k' ρ' w'') (J5 i Q)) (over W u ρ) w') :
  Wp P n (.block i (.loop c)) Q ρ w:=wp_block (dl4 W I k0 h0 round)
theorem au3 {c : Code} (W : List (Nat × Nat)) (R : Fr → World → Prop) (h1 : Wp P n c (L6 (fun ρ' w'=>aa4 W ρ ρ' ∧ R ρ' w') Q) ρ w)
  (h2 : ∀ u w',R (over W u ρ) w' → K (over W u ρ) w') : Wp P n c (L6 K Q) ρ w:=by
 refine wp_mono h1 fun e ρ' w' hq=>?_
 cases e with
 | normal=>
  obtain ⟨hag,hR⟩:=hq
  have ho:=ak5 hag
  show K ρ' w'
  rw [ho] at hR ⊢
  exact h2 ρ' w' hR
 | _=>exact hq
theorem A0 {ops : Array Oper} {d : Bool} {b : Code} (h : Wp P n (.region j ops d) (L6 (fun ρ w=>Wp P n b Q ρ w) Q) ρ w) : Wp P n (.seq (.region j ops d) b) Q ρ w:=wp_seq h
theorem b8 {x y b : Code} (h : Wp P n (.seq x y) (L6 (fun ρ w=>Wp P n b Q ρ w) Q) ρ w) : Wp P n (.seq (.seq x y) b) Q ρ w:=wp_seq h
theorem Y7 {ops : Array Oper} {d : Bool} {b : Code} (h : Wp P n (.block i (.region j ops d)) (L6 (fun ρ w=>Wp P n b Q ρ w) Q) ρ w) : Wp P n (.seq (.block i (.region j ops d)) b) Q ρ w:=wp_seq h
theorem y6 {x y b : Code} (h : Wp P n (.block i (.seq x y)) (L6 (fun ρ w=>Wp P n b Q ρ w) Q) ρ w) : Wp P n (.seq (.block i (.seq x y)) b) Q ρ w:=wp_seq h
theorem n6 {x b : Code} (h : Wp P n (.block i x) (L6 (fun ρ w=>Wp P n b Q ρ w) Q) ρ w) : Wp P n (.seq (.block i x) b) Q ρ w:=wp_seq h
theorem d8 {x y b : Code} (h : Wp P n (.cond c x y) (L6 (fun ρ w=>Wp P n b Q ρ w) Q) ρ w) : Wp P n (.seq (.cond c x y) b) Q ρ w:=wp_seq h
theorem R6 {x y : Code} (W : List (Nat × Nat)) (R : Fr → World → Prop) (hc : ev ρ c = .bool (tst p))
  (ht : p → Wp P n x (L6 (fun ρ' w'=>aa4 W ρ ρ' ∧ R ρ' w') Q) ρ w) (hf : ¬ p → Wp P n y (L6 (fun ρ' w'=>aa4 W ρ ρ' ∧ R ρ' w') Q) ρ w)
  (h2 : ∀ u w',R (over W u ρ) w' → K (over W u ρ) w') : Wp P n (.cond c x y) (L6 K Q) ρ w:=au3 W R (j3 hc ht hf) h2
theorem J4 {ops : Array Oper} {b : Bool} (h : Wp P n (.region j ops b) (J5 i Q) ρ w) : Wp P n (.block i (.region j ops b)) Q ρ w:=wp_block h
theorem q5 {x y : Code} (h : Wp P n (.seq x y) (J5 i Q) ρ w) : Wp P n (.block i (.seq x y)) Q ρ w:=wp_block h
theorem af9 {id : Nat} {l : List Oper} (h : WpR P n l Q l ρ w) : Wp P n (.region id l.toArray false) Q ρ w:=by
 intro hc D act hm
 simp only [O5] at hc
 exact wp_region_lit (h (by simpa using hc) _ act hm)
theorem b7 {all : List Oper} (h : Q .normal ρ w) : WpR P n all Q [] ρ w:=fun _ D a hm=>wpList_nil ⟨ρ,hm,h⟩
theorem a43 {all l : List Oper} (d : Nat) (h : ρ d = v) (k : WpR P n all Q l (upd ρ d v) w) : WpR P n all Q l ρ w:=by rwa [a62 h] at k
theorem bk3 {all : List Oper} (hg : o.guard = none) (h : Stp P (ev ρ) o w (fun v w'=>WpR P n all Q rest (ar1 ρ o.dst v) w')) : WpR P n all Q (o :: rest) ρ w:=by
 intro hd D a hm
 simp only [List.all_cons,Bool.and_eq_true] at hd
 refine wpList_plain hg fun K hK=>?_
 refine Stp.wp (σ:=ev ρ) hm.eval (h.mono fun v w' hw=>?_)
 exact hK _ _ (hw hd.2 _ _ (hm.putO hd.1 v))
def H4 (all : List Oper) (j : Nat) : Option Nat:=(all[j]?).bind (·.dst)
theorem bl8 {all : List Oper} {a : Act} {d : Nat} {b : Bool} (hm : Mt n D a ρ) (hd : H4 all j = some d) (hv : ρ d = .bool b) : yielded all.toArray a.tmps j = some b:=by
 unfold yielded
 have h1 : ((all.toArray)[j]?).bind (·.dst) = some d:=by simpa [H4] using hd
 rw [h1]
 have hg:=hm.get d
 rw [hv] at hg
 cases hx : a.tmps[d]? with
 | none=>simp [Array.getD_eq_getD_getElem?,hx,undef] at hg
 | some v=>simp [Array.getD_eq_getD_getElem?,hx] at hg; simp [hx,hg]
theorem bp5 {all : List Oper} {a : Act} {d : Nat} (hm : Mt n D a ρ) (hd : H4 all j = some d) (hv : ρ d = undef) : yielded all.toArray a.tmps j = none:=by
 unfold yielded
 have h1 : ((all.toArray)[j]?).bind (·.dst) = some d:=by simpa [H4] using hd
 rw [h1]
 have hg:=hm.get d
 rw [hv] at hg
 cases hx : a.tmps[d]? with
 | none=>simp [hx]
 | some v=>simp [Array.getD_eq_getD_getElem?,hx] at hg; simp [hx,hg,undef]
theorem q6 {all : List Oper} {d : Nat}
  (hd : H4 all j = some d) (hv : ρ d = .bool want) (h : WpR P n all Q (⟨dst,op,ty,pos,aft,none⟩ :: rest) ρ w) :
  WpR P n all Q (⟨dst,op,ty,pos,aft,some (j,want)⟩ :: rest) ρ w:=by
 intro hok D a hm
 have hy:=bl8 hm hd hv
 have h':=h hok _ a hm
 simp only [wpList,Region.wanted,hy,if_true,beq_self_eq_true] at h' ⊢
 exact h'
theorem s9 {all : List Oper} {d : Nat} {b : Bool}
  (hd : H4 all j = some d) (hv : ρ d = .bool b) (hb : (b == want) = false) (h : WpR P n all Q rest (ar1 ρ dst undef) w) :
  WpR P n all Q (⟨dst,op,ty,pos,aft,some (j,want)⟩ :: rest) ρ w:=by
 intro hok D a hm
 have hy:=bl8 hm hd hv
 simp only [List.all_cons,Bool.and_eq_true] at hok
 have h':=h hok.2 _ _ (hm.putO (o:=⟨dst,op,ty,pos,aft,some (j,want)⟩) hok.1 undef)
 have hw : (some b == some want) = false:=by simpa using hb
 simp only [wpList,Region.wanted,hy,hw]
 exact h'
theorem W4 {all : List Oper} {d : Nat}
  (hd : H4 all j = some d) (hv : ρ d = undef) (h : WpR P n all Q rest (ar1 ρ dst undef) w) :
  WpR P n all Q (⟨dst,op,ty,pos,aft,some (j,want)⟩ :: rest) ρ w:=by
 intro hok D a hm
 have hy:=bp5 hm hd hv
 simp only [List.all_cons,Bool.and_eq_true] at hok
 have h':=h hok.2 _ _ (hm.putO (o:=⟨dst,op,ty,pos,aft,some (j,want)⟩) hok.1 undef)
 have hw : ((none : Option Bool) == some want) = false:=rfl
 simp only [wpList,Region.wanted,hy,hw]
 exact h'
theorem dj3 {all l : List Oper} (d : Nat) (hv : ρ d = .bool (tst p))
  (ht : p → WpR P n all Q l (upd ρ d (.bool true)) w) (hf : ¬ p → WpR P n all Q l (upd ρ d (.bool false)) w) : WpR P n all Q l ρ w:=by
 by_cases h : p
 ·exact a43 d (by rw [hv,j6 h]) (ht h)
 exact a43 d (by rw [hv,j2 h]) (hf h)
theorem D6 {all : List Oper} {d : Nat}
  (hd : H4 all j = some d) (hv : ρ d = .bool (tst p))
  (ht : p → WpR P n all Q (⟨dst,op,ty,pos,aft,some (j,want)⟩ :: rest) (upd ρ d (.bool true)) w) (hf : ¬ p → WpR P n all Q (⟨dst,op,ty,pos,aft,some (j,want)⟩ :: rest) (upd ρ d (.bool false)) w) :
  WpR P n all Q (⟨dst,op,ty,pos,aft,some (j,want)⟩ :: rest) ρ w:=dj3 d hv ht hf
theorem ch9 {all : List Oper} {d : Nat}
  (hd : H4 all j = some d) (hv : ρ d = .bool (tst p)) (hp : ¬ p)
  (h : WpR P n all Q (⟨dst,op,ty,pos,aft,some (j,want)⟩ :: rest) (upd ρ d (.bool false)) w) :
  WpR P n all Q (⟨dst,op,ty,pos,aft,some (j,want)⟩ :: rest) ρ w:=a43 d (by rw [hv,j2 hp]) h
theorem M5 (h : K ρ w) : L6 K Q .normal ρ w:=h
theorem Y3 (h : Q (.exit i) ρ w) : L6 K Q (.exit i) ρ w:=h
theorem r4 (h : Q .ret ρ w) : L6 K Q .ret ρ w:=h
theorem af2 (h : Q .normal ρ w) : J5 i Q .normal ρ w:=h
theorem N7 (h : Q .ret ρ w) : J5 i Q .ret ρ w:=h
theorem R7 (hb : Nat.beq i j = true) (h : Q .normal ρ w) : J5 j Q (.exit i) ρ w:=by simp only [J5,hb]; exact h
theorem bx9 (hb : Nat.beq i j = false) (h : Q (.exit i) ρ w) : J5 j Q (.exit i) ρ w:=by simp only [J5,hb]; exact h
end rules
def a36 (P : Program) (ρ : Fr) (w : World) : ResultVar → Value → Prop
 | .tmp t,v=>v = ρ t
 | .cell a t,v=>∃ p,ρ a = .pointer (some p) ∧ (loadVar t p).run P w = .ok v w
def S8 (P : Program) (ρ : Fr) (w : World) : List ResultVar → List Value → Prop
 | [],vs=>vs = []
 | r :: rs,vs=>∃ v vs',a36 P ρ w r v ∧ S8 P ρ w rs vs' ∧ vs = v :: vs'
def be5 (vs : List Value) : Value:=match vs with | [v]=>v | vs=>.tuple vs.toArray
def az0 (P : Program) (fn : Func) (Ψ : Value → World → Prop) : G8:=fun e ρ w=>match e with
 | .normal | .ret=>∃ vs,S8 P ρ w fn.results.toList vs ∧ Ψ (be5 vs) w
 | _=>False
def c08 (tmps : Array Value) : ResultVar → Sem Value
 | .tmp t=>pure (tmps.getD t undef)
 | .cell a t=>do loadVar t (← asAddr (tmps.getD a undef))
theorem ce1 (fn : Func) (tmps : Array Value) : results fn tmps = (do let vs ← fn.results.mapM (c08 tmps); pure (if h : vs.size = 1 then vs[0] else .tuple vs)):=by
 unfold results
 congr 1
theorem Z2 {fn : Func} {t : Tmp} (hl : fn.results.toList = [.tmp t]) (hr : ρ t = v) (hv : Ψ v w) : az0 P fn Ψ .ret ρ w:=
 ⟨[v],by rw [hl]; exact ⟨v,[],hr.symm,rfl,rfl⟩,hv⟩
theorem o5 {fn : Func} {t : Tmp} (hl : fn.results.toList = [.tmp t]) (hv : Ψ v w) (hr : ρ t = v:=by conv=>(lhs; whnf)) : az0 P fn Ψ .ret ρ w:=
 Z2 hl hr hv
theorem au4 {fn : Func} {t u : Tmp} (hl : fn.results.toList = [.tmp t,.tmp u]) (hr : ρ t = v) (hr2 : ρ u = v2) (hv : Ψ (.tuple #[v,v2]) w) : az0 P fn Ψ .ret ρ w:=
 ⟨[v,v2],by rw [hl]; exact ⟨v,[v2],hr.symm,⟨v2,[],hr2.symm,rfl,rfl⟩,rfl⟩,hv⟩
theorem cd7 {a : Act} (hm : Mt n D a ρ) : ∀ (l : List ResultVar) (vs : List Value),S8 P ρ w l vs →
  (l.mapM (c08 a.tmps)).run P w = .ok vs w:=by
 intro l
 induction l with
 | nil=>intro vs h; simp only [S8] at h; subst h; rfl
 | cons r rs ih=>
  rintro vs ⟨v,vs',hr,hrs,rfl⟩
  have h2:=ih vs' hrs
  have h1 : (c08 a.tmps r).run P w = .ok v w:=by
   cases r with
   | tmp t=>simp only [a36] at hr; subst hr; simp [c08,hm.get]
   | cell x t=>
    obtain ⟨p,hp,hl⟩:=hr
    simp only [c08,hm.get,hp,asAddr]
    simpa using hl
  simp only [List.mapM_cons,Sem.run_bind,h1,Result.andThen,h2,Sem.run_pure]
theorem H7 {a : Act} {fn : Func} (hm : Mt n D a ρ) {vs : List Value} (h : S8 P ρ w fn.results.toList vs) :
  (results fn a.tmps).run P w = .ok (be5 vs) w:=by
 have h1:=cd7 hm _ _ h
 rw [ce1,Array.mapM_eq_mapM_toList]
 have h2 : (List.toArray <$> List.mapM (c08 a.tmps) fn.results.toList).run P w = .ok vs.toArray w:=by
  rw [map_eq_pure_bind,Sem.run_bind,h1]
  rfl
 rw [Sem.run_bind,h2]
 simp only [Result.andThen,Sem.run_pure]
 match vs with
 | []=>rfl
 | [v]=>rfl
 | u :: v :: r=>simp [be5]
theorem l6 {fn : Func} {c : Code}
  (hf : P.funcs[f]? = some fn) (hb : fn.body = some c) (hok : O5 fn.ntmps c = true) (hn0 : Nat.ble args.length fn.ntmps = true)
  (h : Wp P fn.ntmps c (az0 P fn Ψ) (fun i=>args.getD i undef) w) : Gives P f args w Ψ:=by
 have hn : args.length ≤ fn.ntmps:=Nat.le_of_ble_eq_true hn0
 refine calls_of_wp hf hb ?_
 have hm : Mt fn.ntmps [] { tmps:=args.toArray ++ Array.replicate (fn.ntmps - args.toArray.size) undef,defers:=[] } (fun i=>args.getD i undef):=by
  refine ⟨by simp; omega,rfl,fun i=>?_⟩
  simp only [Array.getD_eq_getD_getElem?,List.getD_eq_getElem?_getD]
  rw [Array.getElem?_append]
  split
  ·simp
  rename_i hlt
  simp at hlt
  rw [List.getElem?_eq_none hlt]
  simp only [Array.getElem?_replicate]
  split <;> rfl
 refine Go.wp_mono (h hok _ _ hm) ?_
 rintro e a w' ⟨ρ,hm',hq⟩
 cases e with
 | normal=>obtain ⟨vs,hr,hv⟩:=hq; exact ⟨hm'.defers,_,H7 hm' hr,_,rfl,hv⟩
 | ret=>obtain ⟨vs,hr,hv⟩:=hq; exact ⟨hm'.defers,_,H7 hm' hr,_,rfl,hv⟩
 | _=>exact hq.elim
attribute [irreducible] Wp WpR
structure Keeps (S : Nat → Prop) (w w' : World) : Prop where
 os : w'.os = w.os
 tape : w'.tape = w.tape
 output : w'.output = w.output
 size : w.heap.size ≤ w'.heap.size
 block : ∀ k,k < w.heap.size → S k → w'.heap[k]? = w.heap[k]?
def All : Nat → Prop:=fun _=>True
abbrev Ext (w w' : World) : Prop:=Keeps All w w'
abbrev Wrt (b : Nat) (w w' : World) : Prop:=Keeps (fun k=>k ≠ b) w w'
theorem Keeps.refl : Keeps S w w:=⟨rfl,rfl,rfl,Nat.le_refl _,fun _ _ _=>rfl⟩
theorem Keeps.trans (h : Keeps S w w1) (k : Keeps S w1 w2) : Keeps S w w2:=
 ⟨k.os.trans h.os,k.tape.trans h.tape,k.output.trans h.output,Nat.le_trans h.size k.size,fun i hi hs=>(k.block i (Nat.lt_of_lt_of_le hi h.size) hs).trans (h.block i hi hs)⟩
theorem Keeps.mono (h : Keeps S w w') (hs : ∀ k,S' k → S k) : Keeps S' w w':=
 ⟨h.os,h.tape,h.output,h.size,fun i hi hk=>h.block i hi (hs i hk)⟩
theorem Keeps.of (h : Ext w w') : Keeps S w w':=h.mono fun _ _=>trivial
theorem Keeps.later (h : Ext w w1) (k : Keeps S' w1 w2) (hs : ∀ i,i < w.heap.size → S i → S' i) : Keeps S w w2:=
 ⟨k.os.trans h.os,k.tape.trans h.tape,k.output.trans h.output,Nat.le_trans h.size k.size,
  fun i hi hk=>(k.block i (Nat.lt_of_lt_of_le hi h.size) (hs i hi hk)).trans (h.block i hi trivial)⟩
theorem Keeps.below (h : Ext w w') : Below w.heap.size w w':=⟨h.os,h.tape,h.output,h.size,fun k hk=>h.block k hk trivial⟩
theorem Keeps.of_below (h : Below w.heap.size w w') : Ext w w':=⟨h.os,h.tape,h.output,h.size,fun k hk _=>h.block k hk⟩
theorem R1 (w : World) (o : Obj) : Ext w (w.alloc o):=⟨rfl,rfl,rfl,by simp,fun k hk _=>Below.heap_alloc w o k hk⟩
theorem a44 (w : World) : Ext w w.drew:=⟨rfl,rfl,rfl,Nat.le_refl _,fun _ _ _=>rfl⟩
theorem b82 (w : World) (a : Addr) (v : Value) : Wrt a.block w (w.setCell a v):=
 ⟨rfl,rfl,rfl,by simp [World.setCell],fun k _ hk=>Below.heap_setCell w a v k hk⟩
def Up (S : Nat → Prop) (w : World) : Prop:=∀ k,w.heap.size ≤ k → S k
theorem Up.to (h : Up S w) (k : Keeps S' w w') : Up S w':=fun i hi=>h i (Nat.le_trans k.size hi)
theorem Up.all : Up All w:=fun _ _=>trivial
def Blk (w : World) (b : Nat) (T : TypeId) (cs : List Value) : Prop:=w.heap[b]? = some (.cells cs.toArray T (0,0))
theorem Blk.lt (h : Blk w b T cs) : b < w.heap.size:=(Array.getElem?_eq_some_iff.1 h).1
theorem Blk.keep (h : Blk w b T cs) (k : Keeps S w w') (hs : S b) : Blk w' b T cs:=(k.block b h.lt hs).trans h
theorem Blk.to (h : Blk w b T cs) (k : Ext w w') : Blk w' b T cs:=h.keep k trivial
theorem Blk.new (w : World) (T : TypeId) (cs : List Value) : Blk (w.alloc (.cells cs.toArray T)) w.heap.size T cs:=heap_alloc_new w _
theorem Blk.ne {cs' : List Value} (h : Blk w b T cs) (h' : Blk w b' T' cs') (hT : T ≠ T') : b ≠ b':=by
 intro e
 subst e
 unfold Blk at h h'
 rw [h] at h'
 simp at h'
 exact hT h'.2
theorem Blk.wr (h : Blk w b T cs) (k : Wrt b' w w') (hne : b ≠ b') : Blk w' b T cs:=h.keep k hne
theorem Blk.cell (h : Blk w b T cs) (hi : cs[i]? = some v) : w.cell? ⟨b,i,none⟩ = some v:=by
 unfold Blk at h
 simp [World.cell?,h,hi]
theorem Blk.free (h : Blk w b T cs) : w.frozen? ⟨b,i,none⟩ = false:=by
 unfold Blk at h
 simp [World.frozen?,h]
theorem Blk.set (h : Blk w b T cs) (v : Value) : Blk (w.setCell ⟨b,i,none⟩ v) b T (cs.set i v):=by
 unfold Blk at *
 simp [World.setCell,Array.getElem?_modify,h]
def adr (v : Value) (i : Nat) : Addr:=match v with
 | .slice (some a) _ _=>⟨a.block,a.off + i,none⟩
 | _=>⟨0,i,none⟩
def Row (S : Nat → Prop) (T : TypeId) (s : Nat) (w : World) (v : Value) (n : Nat) (cs : List Value) : Prop:=
 cs.length = n * s ∧ ((v = .slice none 0 0 ∧ n = 0) ∨
  ∃ b off cap arr fr,v = .slice (some ⟨b,off,none⟩) n cap ∧ n ≤ cap ∧ cap ≤ maxLen ∧ S b ∧ w.heap[b]? = some (.cells arr T fr) ∧ off + cap * s ≤ arr.size ∧ (arr.toList.drop off).take (n * s) = cs)
section
variable {S : Nat → Prop} {T : TypeId} {s : Nat} {w w' : World} {v : Value} {n : Nat} {cs : List Value}
theorem Row.keep (h : Row S T s w v n cs) (k : Keeps S w w') : Row S T s w' v n cs:=by
 refine ⟨h.1,?_⟩
 rcases h.2 with h2 | ⟨b,off,cap,arr,fr,hv,h1,h2,hs,hb,h3,h4⟩
 ·exact .inl h2
 exact .inr ⟨b,off,cap,arr,fr,hv,h1,h2,hs,(k.block b (Array.getElem?_eq_some_iff.1 hb).1 hs).trans hb,h3,h4⟩
theorem Row.to (h : Row S T s w v n cs) (k : Ext w w') : Row S T s w' v n cs:=h.keep (.of k)
theorem Row.mono (h : Row S T s w v n cs) (hs : ∀ k,k < w.heap.size → S k → S' k) : Row S' T s w v n cs:=by
 refine ⟨h.1,?_⟩
 rcases h.2 with h2 | ⟨b,off,cap,arr,fr,hv,h1,h2,hb,hg,h3,h4⟩
 ·exact .inl h2
 exact .inr ⟨b,off,cap,arr,fr,hv,h1,h2,hs b (Array.getElem?_eq_some_iff.1 hg).1 hb,hg,h3,h4⟩
theorem Row.wrT (h : Row S T s w v n cs) (k : Wrt b w w') (hb : Blk w b T' ds) (hT : T' ≠ T) : Row S T s w' v n cs:=by
 refine ⟨h.1,?_⟩
 rcases h.2 with h2 | ⟨b',off,cap,arr,fr,hv,h1,h2,hs,hg,h3,h4⟩
 ·exact .inl h2
 refine .inr ⟨b',off,cap,arr,fr,hv,h1,h2,hs,(k.block b' (Array.getElem?_eq_some_iff.1 hg).1 ?_).trans hg,h3,h4⟩
 intro e
 subst e
 unfold Blk at hb
 rw [hg] at hb
 simp at hb
 exact hT hb.2.1.symm
theorem Row.nil : Row S T s w (.slice none 0 0) 0 []:=⟨by simp,.inl ⟨rfl,rfl⟩⟩
theorem Row.len_le (h : Row S T s w v n cs) : n ≤ maxLen:=by
 rcases h.2 with ⟨_,h2⟩ | ⟨b,off,cap,arr,fr,hv,h1,h2,_⟩
 ·omega
 omega
theorem Row.slice (h : Row S T s w v n cs) : ∃ a cap,v = .slice a n cap ∧ n ≤ cap:=by
 rcases h.2 with ⟨h1,h2⟩ | ⟨b,off,cap,arr,fr,hv,h1,h2,_⟩
 ·exact ⟨none,0,by rw [h1,h2],by omega⟩
 exact ⟨_,cap,hv,h1⟩
theorem Row.cell (h : Row S T s w v n cs) (hu : cs[i]? = some u) : w.cell? (adr v i) = some u:=by
 rcases h.2 with ⟨h1,h2⟩ | ⟨b,off,cap,arr,fr,hv,h1,h2,_,hg,h3,h4⟩
 ·subst h2
  have:=h.1
  simp at this
  subst this
  simp at hu
 subst hv
 show w.cell? ⟨b,off + i,none⟩ = some u
 simp only [World.cell?,hg]
 rw [← h4,List.getElem?_take] at hu
 split at hu
 ·simpa using hu
 cases hu
theorem Row.cut3 (h : Row S T s w v n cs) (m : Nat) (hm : m ≤ n) : ∃ a cap,v = .slice a n cap ∧ n ≤ cap ∧ Row S T s w (.slice a m m) m (cs.take (m * s)):=by
 have hmul : m * s ≤ n * s:=Nat.mul_le_mul_right _ hm
 rcases h.2 with ⟨h1,h2⟩ | ⟨b,off,cap,arr,fr,hv,h1,h2,hs,hg,h3,h4⟩
 ·subst h2
  obtain rfl : m = 0:=by omega
  exact ⟨none,0,h1,Nat.le_refl _,by simp,.inl ⟨rfl,rfl⟩⟩
 refine ⟨_,cap,hv,h1,by rw [List.length_take,h.1]; omega,.inr ⟨b,off,m,arr,fr,rfl,Nat.le_refl _,by omega,hs,hg,?_,?_⟩⟩
 ·have : m * s ≤ cap * s:=Nat.mul_le_mul_right _ (by omega)
  omega
 rw [← h4,List.take_take]
 congr 1
 omega
theorem Row.of_blk (hb : Blk w b T ds) (hS : S b) (hn : n ≤ cap) (hm : cap ≤ maxLen) (hl : cap * s = ds.length) :
  Row S T s w (.slice (some ⟨b,0,none⟩) n cap) n (ds.take (n * s)):=by
 have : n * s ≤ cap * s:=Nat.mul_le_mul_right _ hn
 refine ⟨by rw [List.length_take]; omega,.inr ⟨b,0,cap,ds.toArray,(0,0),rfl,hn,hm,hS,hb,by simp; omega,by simp⟩⟩
theorem Row.of_own {base : Nat} (h : w.ownsRow base T s v n cs) (hS : ∀ k,base ≤ k → S k) : Row S T s w v n cs:=by
 refine ⟨h.1,?_⟩
 rcases h.2 with h2 | ⟨g,cap,cur,hv,hg,hh,hn,hm,hc,ht⟩
 ·exact .inl h2
 exact .inr ⟨g,0,cap,cur,(0,0),hv,hn,hm,hS g hg,hh,by omega,by simpa using ht⟩
end
theorem Keeps.of_grown {r : Option Nat} (h : w.grownBy w' r) : Keeps (fun k=>some k ≠ r) w w':=
 ⟨h.os,h.tape,h.output,h.size,fun k hk hr=>h.block k hk hr⟩
def a59 : Option TypeDesc → Option Bool
 | some (.struct _)=>some true
 | some (.array _ _)=>some true
 | some _=>some false
 | none=>none
class TyI (P : Program) (T : TypeId) (s b : outParam Nat) (z : outParam Value) (agg : outParam Bool) : Prop where
 info : (P.info? T).map (fun i=>(i.size,i.bytes,i.zero)) = some (s,b,some z)
 zsize : z.cells.size = s
 aggp : a59 (P.underlying T) = some agg
class SlT (P : Program) (t : TypeId) (T : outParam TypeId) : Prop where
 und : P.underlying t = some (.slice T)
class FldT (P : Program) (T : TypeId) (f : Nat) (off : outParam Nat) : Prop where
 fld : ∃ fs fd i,P.underlying T = some (.struct fs) ∧ fs[f]? = some fd ∧ fd.offset = off ∧ P.info? fd.type = some i ∧ i.size ≠ 0
theorem TyI.ex (h : TyI P T s b z agg) : ∃ i,P.info? T = some i ∧ i.size = s ∧ i.bytes = b ∧ i.zero = some z:=by
 have h1:=h.info
 cases hi : P.info? T with
 | none=>rw [hi] at h1; cases h1
 | some i=>rw [hi] at h1; simp at h1; exact ⟨i,rfl,h1⟩
theorem TyI.runAgg (h : TyI P T s b z agg) (w : World) : (isAgg T).run P w = .ok agg w:=by
 have h1:=h.aggp
 cases hu : P.underlying T with
 | none=>rw [hu] at h1; cases h1
 | some d=>
  rw [hu] at h1
  cases d <;> simp [a59] at h1 <;> subst h1 <;> simp [isAgg,run_underlying hu]
class IntT (P : Program) (t : TypeId) (k : outParam IntKind) : Prop where
 und : P.underlying t = some (.int k)
class StrT (P : Program) (t : TypeId) : Prop where
 und : P.underlying t = some .string
class BoolT (P : Program) (t : TypeId) : Prop where
 und : P.underlying t = some .bool
class CallI (P : Program) (f : FuncId) : Prop where
 run : ∀ args w,(callFunc f args).run P w = .ok (.enter f args) w
theorem TyI.runSize (h : TyI P T s b z agg) (w : World) : (sizeOf T).run P w = .ok s w:=by
 obtain ⟨i,hi,h1,_⟩:=h.ex
 simp [sizeOf,typeInfo,hi,h1]
theorem TyI.runZero (h : TyI P T s b z agg) (w : World) : (zeroValue T).run P w = .ok z w:=by
 obtain ⟨i,hi,_,_,h1⟩:=h.ex
 simp [zeroValue,typeInfo,hi,h1]
theorem ad4 (h : TyI P T s b z false) {p : Addr} (hc : w.cell? p = some u) : (loadVar T p).run P w = .ok u w:=by
 simp [loadVar,h.runAgg w,load,Sem.run,hc]
theorem bq0 : ∀ (cs : List Value) (o k : Nat) (acc : Array Value),(∀ i,i < cs.length → w.cell? ⟨b,o + k + i,none⟩ = cs[i]?) →
  (loadCellsFrom ⟨b,o,none⟩ k cs.length acc).run P w = .ok (acc ++ cs.toArray) w:=by
 intro cs
 induction cs with
 | nil=>intro o k acc _; simp [loadCellsFrom]
 | cons c cs ih=>
  intro o k acc h
  have h0:=h 0 (by simp)
  have ha : (⟨b,o,none⟩ : Addr).add k = ⟨b,o + k,none⟩:=by
   unfold Addr.add
   split <;> simp_all
  have h1:=ih o (k + 1) (acc.push c) (fun i hi=>by
   have:=h (i + 1) (by simp; omega)
   rw [← Nat.add_assoc,show o + k + 1 + i = o + k + (i + 1) from by omega]
   simpa using this)
  simp only [List.length_cons,loadCellsFrom]
  simp only [Nat.add_zero,List.getElem?_cons_zero] at h0
  simp [ha,load,Sem.run,h0,h1]
theorem as6 (h : TyI P T s b z true) {o : Nat} (hl : us.length = s)
  (hc : ∀ i,i < us.length → w.cell? ⟨g,o + i,none⟩ = us[i]?) : (loadVar T ⟨g,o,none⟩).run P w = .ok (.agg us.toArray) w:=by
 have h1:=bq0 (P:=P) us o 0 #[] (by simpa using hc)
 subst hl
 simp [loadVar,h.runAgg w,h.runSize w,loadCells,h1]
theorem wrap_i64 {x : Int} (h0 : -9223372036854775808 ≤ x) (h1 : x ≤ 9223372036854775807) : IntKind.i64.wrap x = x:=by rw [IntKind.wrap_i64]; omega
theorem at5 {x : Int} (h0 : 0 ≤ x) (h1 : x ≤ 18446744073709551615) : IntKind.u64.wrap x = x:=by simp [IntKind.wrap,IntKind.signed,IntKind.bits]; omega
theorem ah5 {x : Int} (h0 : 0 ≤ x) (h1 : x ≤ 4294967295) : IntKind.u32.wrap x = x:=by simp [IntKind.wrap,IntKind.signed,IntKind.bits]; omega
theorem dr5 {x : Int} (h0 : 0 ≤ x) (h1 : x ≤ 255) : IntKind.u8.wrap x = x:=by simp [IntKind.wrap,IntKind.signed,IntKind.bits]; omega
section rules
variable {P : Program} {n : Nat} {Q : G8} {ρ : Fr} {w : World} {all rest : List Oper} {d : Tmp} {ty : TypeId} {pos : String} {aft : Array Edge}
theorem F1 {d : Tmp} (hd : o.dst = some d) (hg : o.guard = none) (hr : (execOp (ev ρ) o).run P w = .ok (.value v) w) (h : WpR P n all Q rest (upd ρ d v) w) :
  WpR P n all Q (o :: rest) ρ w:=by
 refine bk3 hg ?_
 unfold Stp
 rw [hr]
 simp only [hd,ar1]
 exact h
theorem al0 {d : Tmp} (hd : o.dst = some d) (hg : o.guard = none) (hr : (execOp (ev ρ) o).run P w = .ok (.value v) w') (h : WpR P n all Q rest (upd ρ d v) w') :
  WpR P n all Q (o :: rest) ρ w:=by
 refine bk3 hg ?_
 unfold Stp
 rw [hr]
 simp only [hd,ar1]
 exact h
theorem b14 (hd : o.dst = none) (hg : o.guard = none) (hr : (execOp (ev ρ) o).run P w = .ok .skip w') (h : WpR P n all Q rest ρ w') :
  WpR P n all Q (o :: rest) ρ w:=by
 refine bk3 hg ?_
 unfold Stp
 rw [hr]
 simp only [hd,ar1]
 exact h
theorem c38 (hv : ev ρ x = v) (h : WpR P n all Q rest (upd ρ d v) w) : WpR P n all Q (⟨some d,.move x,ty,pos,aft,none⟩ :: rest) ρ w:=
 F1 rfl rfl (by subst hv; rfl) h
theorem q8 (h : WpR P n all Q rest (upd ρ d v) w) (hv : ev ρ x = v:=by conv=>(lhs; whnf)) : WpR P n all Q (⟨some d,.move x,ty,pos,aft,none⟩ :: rest) ρ w:=
 c38 hv h
theorem dh2 (hv : ev ρ x = v) (h : WpR P n all Q rest (upd ρ d v) w) : WpR P n all Q (⟨some d,.assign x,ty,pos,aft,none⟩ :: rest) ρ w:=
 F1 rfl rfl (by subst hv; rfl) h
theorem br8 (h : WpR P n all Q rest (upd ρ d v) w) (hv : ev ρ x = v:=by conv=>(lhs; whnf)) : WpR P n all Q (⟨some d,.assign x,ty,pos,aft,none⟩ :: rest) ρ w:=
 dh2 hv h
theorem wW {X g : Prop} (h : X) (e : X → g:=by first | exact fun h=>A0 h | exact fun h=>af9 h | exact fun h=>q8 h | exact fun h=>br8 h | exact fun h=>b7 h | exact fun h=>M5 h | exact fun h=>wp_ret h) : g:=e h
theorem b89 (hc : ev ρ c = .bool true) (hv : ev ρ x = v) (h : WpR P n all Q rest (upd ρ d v) w) : WpR P n all Q (⟨some d,.pick c x y,ty,pos,aft,none⟩ :: rest) ρ w:=
 F1 rfl rfl (by subst hv; simp [execOp,hc,asBool]) h
theorem s4 (hc : ev ρ c = .bool true) (h : WpR P n all Q rest (upd ρ d v) w) (hv : ev ρ x = v:=by conv=>(lhs; whnf)) : WpR P n all Q (⟨some d,.pick c x y,ty,pos,aft,none⟩ :: rest) ρ w:=
 b89 hc hv h
theorem b06 (hc : ev ρ c = .bool false) (hv : ev ρ y = v) (h : WpR P n all Q rest (upd ρ d v) w) : WpR P n all Q (⟨some d,.pick c x y,ty,pos,aft,none⟩ :: rest) ρ w:=
 F1 rfl rfl (by subst hv; simp [execOp,hc,asBool]) h
theorem p9 (hc : ev ρ c = .bool false) (h : WpR P n all Q rest (upd ρ d v) w) (hv : ev ρ y = v:=by conv=>(lhs; whnf)) : WpR P n all Q (⟨some d,.pick c x y,ty,pos,aft,none⟩ :: rest) ρ w:=
 b06 hc hv h
theorem z6 [st : SlT P t T] (hv : ev ρ x = v) (hr : Row S T s w0 v m cs)
  (h : WpR P n all Q rest (upd ρ d (.int .i64 m)) w) : WpR P n all Q (⟨some d,.call ⟨.builtin .len,#[x],#[t]⟩,ty,pos,aft,none⟩ :: rest) ρ w:=by
 obtain ⟨a,cap,hs,_⟩:=hr.slice
 refine F1 rfl rfl ?_ h
 subst hs
 simp [execOp,resolve,invoke,builtin,hv,Builtin.len_,run_underlying st.und,goInt]
theorem c16 [st : SlT P t T] {a : Option Addr} (hv : ev ρ x = .slice a m cap)
  (h : WpR P n all Q rest (upd ρ d (.int .i64 m)) w) : WpR P n all Q (⟨some d,.call ⟨.builtin .len,#[x],#[t]⟩,ty,pos,aft,none⟩ :: rest) ρ w:=by
 refine F1 rfl rfl ?_ h
 simp [execOp,resolve,invoke,builtin,hv,Builtin.len_,run_underlying st.und,goInt]
theorem bs3 [st : StrT P t] {s : ByteArray} (hv : ev ρ x = .string s)
  (h : WpR P n all Q rest (upd ρ d (.int .i64 s.size)) w) : WpR P n all Q (⟨some d,.call ⟨.builtin .len,#[x],#[t]⟩,ty,pos,aft,none⟩ :: rest) ρ w:=by
 refine F1 rfl rfl ?_ h
 simp [execOp,resolve,invoke,builtin,hv,Builtin.len_,run_underlying st.und,goInt]
theorem ak2 {op : BinOp} {b c : Int} (hx : ev ρ x = .int k a) (hy : ev ρ y = .int k b)
  (ho : (op = .add ∧ k.wrap (a + b) = c) ∨ (op = .sub ∧ k.wrap (a - b) = c) ∨ (op = .mul ∧ k.wrap (a * b) = c))
  (h : WpR P n all Q rest (upd ρ d (.int k c)) w) : WpR P n all Q (⟨some d,.binOp op xt x y yt,ty,pos,aft,none⟩ :: rest) ρ w:=by
 refine F1 rfl rfl ?_ h
 rcases ho with ⟨rfl,rfl⟩ | ⟨rfl,rfl⟩ | ⟨rfl,rfl⟩ <;> simp [execOp,hx,hy,eqGuard,binOp,Op.intArith]
theorem cj5 {b : Int} (hx : ev ρ x = .int .i64 a) (hy : ev ρ y = .int .i64 b) (h0 : -9223372036854775808 ≤ a + b) (h1 : a + b ≤ 9223372036854775807)
  (h : WpR P n all Q rest (upd ρ d (.int .i64 (a + b))) w) : WpR P n all Q (⟨some d,.binOp .add xt x y yt,ty,pos,aft,none⟩ :: rest) ρ w:=
 ak2 hx hy (.inl ⟨rfl,wrap_i64 h0 h1⟩) h
theorem A2 {b : Int} (hx : ev ρ x = .int .i64 a) (hy : ev ρ y = .int .i64 b) (h : WpR P n all Q rest (upd ρ d (.int .i64 (a + b))) w) (h0 : -9223372036854775808 ≤ a + b:=by omega) (h1 : a + b ≤ 9223372036854775807:=by omega) : WpR P n all Q (⟨some d,.binOp .add xt x y yt,ty,pos,aft,none⟩ :: rest) ρ w:=
 cj5 hx hy h0 h1 h
theorem dz5 {b : Int} (hx : ev ρ x = .int .i64 a) (hy : ev ρ y = .int .i64 b) (h0 : -9223372036854775808 ≤ a - b) (h1 : a - b ≤ 9223372036854775807)
  (h : WpR P n all Q rest (upd ρ d (.int .i64 (a - b))) w) : WpR P n all Q (⟨some d,.binOp .sub xt x y yt,ty,pos,aft,none⟩ :: rest) ρ w:=
 ak2 hx hy (.inr (.inl ⟨rfl,wrap_i64 h0 h1⟩)) h
theorem x9 {b : Int} (hx : ev ρ x = .int .i64 a) (hy : ev ρ y = .int .i64 b) (h : WpR P n all Q rest (upd ρ d (.int .i64 (a - b))) w) (h0 : -9223372036854775808 ≤ a - b:=by omega) (h1 : a - b ≤ 9223372036854775807:=by omega) : WpR P n all Q (⟨some d,.binOp .sub xt x y yt,ty,pos,aft,none⟩ :: rest) ρ w:=
 dz5 hx hy h0 h1 h
theorem bb5 {b : Int} (hx : ev ρ x = .int .i64 a) (hy : ev ρ y = .int .i64 b) (h0 : -9223372036854775808 ≤ a * b) (h1 : a * b ≤ 9223372036854775807)
  (h : WpR P n all Q rest (upd ρ d (.int .i64 (a * b))) w) : WpR P n all Q (⟨some d,.binOp .mul xt x y yt,ty,pos,aft,none⟩ :: rest) ρ w:=
 ak2 hx hy (.inr (.inr ⟨rfl,wrap_i64 h0 h1⟩)) h
theorem dw8 {b : Int} (hx : ev ρ x = .int .u64 a) (hy : ev ρ y = .int .u64 b) (h0 : 0 ≤ a + b) (h1 : a + b ≤ 18446744073709551615)
  (h : WpR P n all Q rest (upd ρ d (.int .u64 (a + b))) w) : WpR P n all Q (⟨some d,.binOp .add xt x y yt,ty,pos,aft,none⟩ :: rest) ρ w:=
 ak2 hx hy (.inl ⟨rfl,at5 h0 h1⟩) h
theorem dx4 {b : Int} (hx : ev ρ x = .int .u64 a) (hy : ev ρ y = .int .u64 b) (h0 : 0 ≤ a * b) (h1 : a * b ≤ 18446744073709551615)
  (h : WpR P n all Q rest (upd ρ d (.int .u64 (a * b))) w) : WpR P n all Q (⟨some d,.binOp .mul xt x y yt,ty,pos,aft,none⟩ :: rest) ρ w:=
 ak2 hx hy (.inr (.inr ⟨rfl,at5 h0 h1⟩)) h
theorem dy5 {b : Int} (hx : ev ρ x = .int .u32 a) (hy : ev ρ y = .int .u32 b) (h0 : 0 ≤ a + b) (h1 : a + b ≤ 4294967295)
  (h : WpR P n all Q rest (upd ρ d (.int .u32 (a + b))) w) : WpR P n all Q (⟨some d,.binOp .add xt x y yt,ty,pos,aft,none⟩ :: rest) ρ w:=
 ak2 hx hy (.inl ⟨rfl,ah5 h0 h1⟩) h
theorem d75 {b : Int} (hx : ev ρ x = .int .u32 a) (hy : ev ρ y = .int .u32 b) (h0 : 0 ≤ a - b) (h1 : a - b ≤ 4294967295)
  (h : WpR P n all Q rest (upd ρ d (.int .u32 (a - b))) w) : WpR P n all Q (⟨some d,.binOp .sub xt x y yt,ty,pos,aft,none⟩ :: rest) ρ w:=
 ak2 hx hy (.inr (.inl ⟨rfl,ah5 h0 h1⟩)) h
theorem c84 {b c : Int} (hx : ev ρ x = .int k a) (hy : ev ρ y = .int k b) (hb : b ≠ 0) (hc : k.wrap (a.tdiv b) = c)
  (h : WpR P n all Q rest (upd ρ d (.int k c)) w) : WpR P n all Q (⟨some d,.binOp .quo xt x y yt,ty,pos,aft,none⟩ :: rest) ρ w:=by
 refine F1 rfl rfl ?_ h
 simp [execOp,hx,hy,eqGuard,binOp,Op.intDiv,hb,hc]
theorem dt6 {b : Int} (hx : ev ρ x = .int k a) (hy : ev ρ y = .int k b) (hb : b ≠ 0)
  (h : WpR P n all Q rest (upd ρ d (.int k (a.tmod b))) w) : WpR P n all Q (⟨some d,.binOp .rem xt x y yt,ty,pos,aft,none⟩ :: rest) ρ w:=by
 refine F1 rfl rfl ?_ h
 simp [execOp,hx,hy,eqGuard,binOp,Op.intDiv,hb]
theorem bj9 {b : Int} (ha : 0 ≤ a) : a.tdiv b = a / b:=Int.tdiv_eq_ediv_of_nonneg ha
theorem b63 {b : Int} (ha : 0 ≤ a) : a.tmod b = a % b:=Int.tmod_eq_emod_of_nonneg ha
theorem cq1 {b : Int} (ha : 0 ≤ a) (hb : 0 < b) : 0 ≤ a / b ∧ a / b ≤ a:=⟨Int.ediv_nonneg ha (Int.le_of_lt hb),Int.ediv_le_self _ ha⟩
theorem ao9 {b : Int} (hx : ev ρ x = .int .i64 a) (hy : ev ρ y = .int .i64 b) (ha : 0 ≤ a) (hb : 0 < b) (h1 : a ≤ 9223372036854775807)
  (h : WpR P n all Q rest (upd ρ d (.int .i64 (a / b))) w) : WpR P n all Q (⟨some d,.binOp .quo xt x y yt,ty,pos,aft,none⟩ :: rest) ρ w:=
 c84 hx hy (by omega) (by have:=cq1 ha hb; rw [bj9 ha]; exact wrap_i64 (by omega) (by omega)) h
theorem cf5 {b : Int} (hx : ev ρ x = .int .u64 a) (hy : ev ρ y = .int .u64 b) (ha : 0 ≤ a) (hb : 0 < b) (h1 : a ≤ 18446744073709551615)
  (h : WpR P n all Q rest (upd ρ d (.int .u64 (a / b))) w) : WpR P n all Q (⟨some d,.binOp .quo xt x y yt,ty,pos,aft,none⟩ :: rest) ρ w:=
 c84 hx hy (by omega) (by have:=cq1 ha hb; rw [bj9 ha]; exact at5 (by omega) (by omega)) h
theorem aq0 {b : Int} (hx : ev ρ x = .int k a) (hy : ev ρ y = .int k b) (ha : 0 ≤ a) (hb : 0 < b)
  (h : WpR P n all Q rest (upd ρ d (.int k (a % b))) w) : WpR P n all Q (⟨some d,.binOp .rem xt x y yt,ty,pos,aft,none⟩ :: rest) ρ w:=
 dt6 hx hy (by omega) (by rwa [b63 ha])
theorem b38 {op : BinOp} {b : Int} (hx : ev ρ x = .int k a) (hy : ev ρ y = .int k b)
  (ho : (op = .eql ∧ p = (a = b)) ∨ (op = .neq ∧ p = (a ≠ b)) ∨ (op = .lss ∧ p = (a < b)) ∨ (op = .leq ∧ p = (a ≤ b)) ∨ (op = .gtr ∧ p = (b < a)) ∨ (op = .geq ∧ p = (b ≤ a)))
  (h : WpR P n all Q rest (upd ρ d (.bool (tst p))) w) : WpR P n all Q (⟨some d,.binOp op xt x y yt,ty,pos,aft,none⟩ :: rest) ρ w:=by
 refine F1 rfl rfl ?_ h
 have e1 : (a == b) = tst (a = b):=by rw [← U1,Bool.eq_iff_iff]; simp
 have e2 : (a != b) = tst (a ≠ b):=by rw [← U1,Bool.eq_iff_iff]; simp
 rcases ho with ⟨rfl,h⟩ | ⟨rfl,h⟩ | ⟨rfl,h⟩ | ⟨rfl,h⟩ | ⟨rfl,h⟩ | ⟨rfl,h⟩ <;> subst h <;> simp [execOp,hx,hy,eqGuard,binOp,Op.intCmp,e1,e2,U1]
section
variable {x y : Operand} {xt yt : TypeId} {k : IntKind} {a b : Int} (hx : ev ρ x = .int k a) (hy : ev ρ y = .int k b)
include hx hy
theorem ad2 (h : WpR P n all Q rest (upd ρ d (.bool (tst (a = b)))) w) : WpR P n all Q (⟨some d,.binOp .eql xt x y yt,ty,pos,aft,none⟩ :: rest) ρ w:=b38 hx hy (.inl ⟨rfl,rfl⟩) h
theorem b60 (h : WpR P n all Q rest (upd ρ d (.bool (tst (a ≠ b)))) w) : WpR P n all Q (⟨some d,.binOp .neq xt x y yt,ty,pos,aft,none⟩ :: rest) ρ w:=b38 hx hy (.inr (.inl ⟨rfl,rfl⟩)) h
theorem N4 (h : WpR P n all Q rest (upd ρ d (.bool (tst (a < b)))) w) : WpR P n all Q (⟨some d,.binOp .lss xt x y yt,ty,pos,aft,none⟩ :: rest) ρ w:=b38 hx hy (.inr (.inr (.inl ⟨rfl,rfl⟩))) h
theorem Y1 (h : WpR P n all Q rest (upd ρ d (.bool (tst (b < a)))) w) : WpR P n all Q (⟨some d,.binOp .gtr xt x y yt,ty,pos,aft,none⟩ :: rest) ρ w:=b38 hx hy (.inr (.inr (.inr (.inr (.inl ⟨rfl,rfl⟩))))) h
theorem aj6 (h : WpR P n all Q rest (upd ρ d (.bool (tst (b ≤ a)))) w) : WpR P n all Q (⟨some d,.binOp .geq xt x y yt,ty,pos,aft,none⟩ :: rest) ρ w:=b38 hx hy (.inr (.inr (.inr (.inr (.inr ⟨rfl,rfl⟩))))) h
end
theorem R3 {dst : TypeId} {k' : IntKind} [ss : IntT P src k0] [sd : IntT P dst k'] {c : Int} (hx : ev ρ x = .int k a) (hc : k'.wrap a = c)
  (h : WpR P n all Q rest (upd ρ d (.int k' c)) w) : WpR P n all Q (⟨some d,.convert src dst x,ty,pos,aft,none⟩ :: rest) ρ w:=by
 refine F1 rfl rfl ?_ h
 simp [execOp,hx,convert,run_underlying ss.und,run_underlying sd.und,Conv.intToInt,hc]
theorem b02 [st : SlT P t T] [ti : TyI P T s b z agg] {i : Int}
  (hv : ev ρ x = v) (hi : ev ρ ix = .int k i) (hr : Row S T s w0 v m cs) (h0 : 0 ≤ i) (h1 : i < m)
  (h : WpR P n all Q rest (upd ρ d (.pointer (some (adr v (i.toNat * s))))) w) : WpR P n all Q (⟨some d,.indexAddr t x ix,ty,pos,aft,none⟩ :: rest) ρ w:=by
 rcases hr.2 with ⟨_,h2⟩ | ⟨g,off,cap,arr,fr,hv2,_⟩
 ·omega
 refine F1 rfl rfl ?_ h
 subst hv2
 have ha : (⟨g,off,none⟩ : Addr).add (i.toNat * s) = ⟨g,off + i.toNat * s,none⟩:=by
  unfold Addr.add
  split <;> simp_all
 simp [execOp,hv,hi,Instr.indexAt,asIntOf,run_underlying st.und,h0,h1,ti.runSize w,adr,ha]
theorem cj8 [st : SlT P t T] [ti : TyI P T s b z agg] {i : Int}
  (hv : ev ρ x = .slice (some ⟨g,off,none⟩) m cap) (hi : ev ρ ix = .int k i) (h0 : 0 ≤ i) (h1 : i < m)
  (h : WpR P n all Q rest (upd ρ d (.pointer (some ⟨g,off + i.toNat * s,none⟩))) w) : WpR P n all Q (⟨some d,.indexAddr t x ix,ty,pos,aft,none⟩ :: rest) ρ w:=by
 refine F1 rfl rfl ?_ h
 have ha : (⟨g,off,none⟩ : Addr).add (i.toNat * s) = ⟨g,off + i.toNat * s,none⟩:=by
  unfold Addr.add
  split <;> simp_all
 simp [execOp,hv,hi,Instr.indexAt,asIntOf,run_underlying st.und,h0,h1,ti.runSize w,ha]
theorem a11 {p : Addr} (hx : ev ρ x = .pointer (some p)) (hl : (loadVar t p).run P w = .ok u w)
  (h : WpR P n all Q rest (upd ρ d u) w) : WpR P n all Q (⟨some d,.load t x,ty,pos,aft,none⟩ :: rest) ρ w:=by
 refine F1 rfl rfl ?_ h
 simp [execOp,hx,Instr.loadAt,Instr.sureAddr,hl]
theorem bg9 [ti : TyI P T 1 b z false]
  (hx : ev ρ x = .pointer (some (adr v i))) (hr : Row S T 1 w v m cs) (hu : cs[i]? = some u) (h : WpR P n all Q rest (upd ρ d u) w) :
  WpR P n all Q (⟨some d,.load T x,ty,pos,aft,none⟩ :: rest) ρ w:=
 a11 hx (ad4 ti (hr.cell hu)) h
theorem d7 [ti : TyI P t s b z false]
  (hx : ev ρ x = .pointer (some ⟨g,i,none⟩)) (hb : Blk w g T cs) (hu : cs[i]? = some u) (h : WpR P n all Q rest (upd ρ d u) w) :
  WpR P n all Q (⟨some d,.load t x,ty,pos,aft,none⟩ :: rest) ρ w:=
 a11 hx (ad4 ti (hb.cell hu)) h
theorem o9 [ti : TyI P t s b z true]
  (hx : ev ρ x = .pointer (some ⟨g,0,none⟩)) (hb : Blk w g T cs) (hs : cs.length = s) (h : WpR P n all Q rest (upd ρ d (.agg cs.toArray)) w) :
  WpR P n all Q (⟨some d,.load t x,ty,pos,aft,none⟩ :: rest) ρ w:=
 a11 hx (as6 ti hs fun i hi=>by rw [Nat.zero_add,List.getElem?_eq_getElem hi]; exact hb.cell (List.getElem?_eq_getElem hi)) h
theorem dv7 (hx : ev ρ x = v) (hc : v.cells = cs.toArray)
  (h : ∀ w' b,Ext w w' → Blk w' b T cs → w.heap.size ≤ b → WpR P n all Q rest (upd ρ d (.pointer (some ⟨b,0,none⟩))) w') :
  WpR P n all Q (⟨some d,.box T x,ty,pos,aft,none⟩ :: rest) ρ w:=by
 refine al0 (w':=w.alloc (.cells cs.toArray T)) rfl rfl ?_ (h _ w.heap.size (R1 _ _) (Blk.new _ _ _) (Nat.le_refl _))
 simp [execOp,hx,Instr.box,newVar,newRow,hc]
theorem s6 (hc : v.cells = cs.toArray) (h : ∀ w' b,Ext w w' → Blk w' b T cs → w.heap.size ≤ b → WpR P n all Q rest (upd ρ d (.pointer (some ⟨b,0,none⟩))) w') (hx : ev ρ x = v:=by conv=>(lhs; whnf)) : WpR P n all Q (⟨some d,.box T x,ty,pos,aft,none⟩ :: rest) ρ w:=
 dv7 hx hc h
theorem am2 (h : v.oneCell' = true) : v.cells = [v].toArray:=by cases v <;> first | rfl | cases h
theorem Row.one (h : Row S T s w v m cs) : v.oneCell' = true:=by
 obtain ⟨a,cap,rfl,_⟩:=h.slice
 rfl
theorem a93 (hx : ev ρ x = v) (h1 : v.oneCell' = true)
  (h : ∀ w' b,Ext w w' → Blk w' b T [v] → w.heap.size ≤ b → WpR P n all Q rest (upd ρ d (.pointer (some ⟨b,0,none⟩))) w') :
  WpR P n all Q (⟨some d,.box T x,ty,pos,aft,none⟩ :: rest) ρ w:=dv7 hx (am2 h1) h
theorem q9 [ti : TyI P T s b z agg] (hc : z.cells = cs.toArray)
  (h : ∀ w' b,Ext w w' → Blk w' b T cs → w.heap.size ≤ b → WpR P n all Q rest (upd ρ d (.pointer (some ⟨b,0,none⟩))) w') :
  WpR P n all Q (⟨some d,.alloc T,ty,pos,aft,none⟩ :: rest) ρ w:=by
 refine al0 (w':=w.alloc (.cells cs.toArray T)) rfl rfl ?_ (h _ w.heap.size (R1 _ _) (Blk.new _ _ _) (Nat.le_refl _))
 simp [execOp,Instr.alloc,ti.runZero w,newVar,newRow,hc]
theorem j4 {f : Nat} [ft : FldT P T f off] {o : Nat} (hx : ev ρ x = .pointer (some ⟨g,o,none⟩))
  (h : WpR P n all Q rest (upd ρ d (.pointer (some ⟨g,o + off,none⟩))) w) : WpR P n all Q (⟨some d,.fieldAddr T x f,ty,pos,aft,none⟩ :: rest) ρ w:=by
 obtain ⟨fs,fd,i,h1,h2,h3,h4,h5⟩:=ft.fld
 refine F1 rfl rfl ?_ h
 have ha : (⟨g,o,none⟩ : Addr).add off = ⟨g,o + off,none⟩:=by
  unfold Addr.add
  split <;> simp_all
 simp [execOp,hx,Instr.fieldAt,run_underlying h1,h2,Instr.sureAddr,fieldPlace,sizeOf,typeInfo,h4,h5,h3,ha]
theorem O4 [ti : TyI P t 1 b z agg]
  (hx : ev ρ x = .pointer (some ⟨g,i,none⟩)) (hy : ev ρ y = u) (hb : Blk w g T cs) (hi : i < cs.length) (h1 : u.oneCell' = true)
  (h : ∀ w',Wrt g w w' → Blk w' g T (cs.set i u) → WpR P n all Q rest ρ w') : WpR P n all Q (⟨none,.store t x y,ty,pos,aft,none⟩ :: rest) ρ w:=by
 refine b14 (w':=w.setCell ⟨g,i,none⟩ u) rfl rfl ?_ (h _ (b82 w ⟨g,i,none⟩ u) (hb.set u))
 have hc : u.cells = #[u]:=by cases u <;> first | rfl | cases h1
 have h2:=run_store P w ⟨g,i,none⟩ u .plain h1
 rw [hb.cell (List.getElem?_eq_getElem hi),hb.free] at h2
 simp only [Bool.false_eq_true,if_false] at h2
 have h3 : (⟨g,i,none⟩ : Addr).add 0 = ⟨g,i,none⟩:=rfl
 simp [execOp,hx,hy,Instr.storeAt,Instr.sureAddr,storeVar,ti.runSize w,hc,storeCells,h3,h2]
theorem F0 [ti : TyI P t s b z agg]
  (hx : ev ρ x = .pointer (some ⟨g,0,none⟩)) (hy : ev ρ y = u) (hc : u.cells = us.toArray) (hl : us.length = s) (hb : Blk w g T cs) (hi : cs.length = s) (h1 : ∀ v ∈ us,v.oneCell' = true)
  (h : ∀ w',Wrt g w w' → Blk w' g T us → WpR P n all Q rest ρ w') : WpR P n all Q (⟨none,.store t x y,ty,pos,aft,none⟩ :: rest) ρ w:=by
 have h2:=run_storeCells_at P g 0 T us 0 cs.toArray w hb (by simp; omega) h1
 have h4 : (cs.toArray.toList.take (0 + 0) ++ us ++ cs.toArray.toList.drop (0 + 0 + us.length)).toArray = us.toArray:=by
  have : List.drop us.length cs = []:=List.drop_eq_nil_of_le (by omega)
  simp [this]
 rw [h4] at h2
 refine b14 (w':=w.setRow g us.toArray) rfl rfl ?_ (h _ ?_ (setRow_heap w g _ us.toArray T (0,0) hb))
 ·subst hl
  simp [execOp,hx,hy,Instr.storeAt,Instr.sureAddr,storeVar,ti.runSize w,hc,h2]
 exact ⟨rfl,rfl,rfl,by simp [World.setRow],fun k _ hk=>setRow_other w g k _ hk⟩
theorem d9 [ci : CallI P f] (hc : Gives P f args w Ψ) (ha : l.map (ev ρ) = args)
  (h : ∀ v w',Ψ v w' → WpR P n all Q rest (upd ρ d v) w') : WpR P n all Q (⟨some d,.call ⟨.value (.func f),l.toArray,ts⟩,ty,pos,aft,none⟩ :: rest) ρ w:=by
 refine bk3 rfl ?_
 have hr : (execOp (ev ρ) ⟨some d,.call ⟨.value (.func f),l.toArray,ts⟩,ty,pos,aft,none⟩).run P w = .ok (.enter f args.toArray) w:=by
  subst ha
  simp [execOp,resolve,Deferred.ofValue,ev,invoke,ci.run]
 unfold Stp
 rw [hr]
 exact hc.mono h
theorem dm3 [ci : CallI P f] {cap : List Value}
  (hx : ev ρ x = .func (.func f) first.toArray cap.toArray) (hc : Gives P f args w Ψ) (ha : first ++ l.map (ev ρ) ++ cap = args)
  (h : ∀ v w',Ψ v w' → WpR P n all Q rest (upd ρ d v) w') : WpR P n all Q (⟨some d,.call ⟨.value x,l.toArray,ts⟩,ty,pos,aft,none⟩ :: rest) ρ w:=by
 refine bk3 rfl ?_
 have hr : (execOp (ev ρ) ⟨some d,.call ⟨.value x,l.toArray,ts⟩,ty,pos,aft,none⟩).run P w = .ok (.enter f args.toArray) w:=by
  subst ha
  simp [execOp,resolve,Deferred.ofValue,hx,invoke,ci.run]
 unfold Stp
 rw [hr]
 exact hc.mono h
theorem B4 {l : List Value} (hx : ev ρ x = .tuple l.toArray) (hi : l[i]? = some v) (h : WpR P n all Q rest (upd ρ d v) w) :
  WpR P n all Q (⟨some d,.extract x i,ty,pos,aft,none⟩ :: rest) ρ w:=
 F1 rfl rfl (by simp [execOp,hx,Instr.extract,hi]) h
theorem a26 {b : Bool} (hx : ev ρ x = .bool b) (h : WpR P n all Q rest (upd ρ d (.bool (!b))) w) :
  WpR P n all Q (⟨some d,.unOp .not t x,ty,pos,aft,none⟩ :: rest) ρ w:=
 F1 rfl rfl (by simp [execOp,hx,Op.unary]) h
theorem a08 {fn : Fn} {first cap : List Operand} (h : WpR P n all Q rest (upd ρ d (.func fn (first.map (ev ρ)).toArray (cap.map (ev ρ)).toArray)) w) :
  WpR P n all Q (⟨some d,.makeFunc fn first.toArray cap.toArray,ty,pos,aft,none⟩ :: rest) ρ w:=
 F1 rfl rfl (by simp [execOp,Instr.makeFunc]) h
theorem dg7 [st : SlT P t T] [ti : TyI P T s b z agg] {hi mx : Operand} {k : Nat} {i : Int}
  (hv : ev ρ x = v) (hr : Row S T s w0 v m cs) (hh : ev ρ hi = .int .i64 i) (hm : ev ρ mx = .int .i64 i) (hik : i = (k : Int)) (hk : k ≤ m)
  (h : ∀ v',Row S T s w0 v' k (cs.take (k * s)) → WpR P n all Q rest (upd ρ d v') w) : WpR P n all Q (⟨some d,.slice t x none (some hi) (some mx),ty,pos,aft,none⟩ :: rest) ρ w:=by
 obtain ⟨a,cap,hs,hc,hr'⟩:=hr.cut3 k hk
 have h2 : k ≤ cap:=by omega
 refine F1 (v:=.slice a k k) rfl rfl ?_ (h _ hr')
 subst hs hik
 simp [execOp,hv,hh,hm,Instr.sliceAt,Instr.slice,run_underlying st.und,Instr.sliceBounds,Instr.sliceBound,asIntOf,h2,ti.runSize w,Addr.add]
end rules
theorem cp2 {a b c d : Value} (h : a = b) (k : c = d) : [a,c] = [b,d]:=by rw [h,k]
theorem ao1 (q : Question) (w : World) : ∃ r w',(choose q).run P w = .ok r w' ∧ Ext w w':=by
 by_cases h : q.forced = true
 ·exact ⟨0,w,by simp [choose,Sem.run,h],.refl⟩
 exact ⟨_,w.drew,by simp [choose,Sem.run,h]; rfl,a44 w⟩
theorem bm7 {op : BinOp} (ho : op = .add ∨ op = .sub ∨ op = .mul ∨ op = .quo) (k : FloatKind) (x y : Nat) (w : World) :
  ∃ r w',(Op.floatArith op k x y).run P w = .ok (.float k r) w' ∧ Ext w w':=by
 obtain ⟨r,w',h1,h2⟩:=ao1 (P:=P) (.nanBits k x y) w
 have h3 : (do pure (Value.float k (← choose (.nanBits k x y))) : Sem Value).run P w = .ok (.float k r) w':=by
  rw [Sem.run_bind,h1]; rfl
 rcases ho with rfl | rfl | rfl | rfl <;> unfold Op.floatArith <;> dsimp only
 ·cases k.format.add x y with
  | some r=>exact ⟨r,w,rfl,.refl⟩
  | none=>exact ⟨r,w',h3,h2⟩
 ·cases k.format.sub x y with
  | some r=>exact ⟨r,w,rfl,.refl⟩
  | none=>exact ⟨r,w',h3,h2⟩
 ·cases k.format.mul x y with
  | some r=>exact ⟨r,w,rfl,.refl⟩
  | none=>exact ⟨r,w',h3,h2⟩
 cases k.format.div x y with
 | some r=>exact ⟨r,w,rfl,.refl⟩
 | none=>exact ⟨r,w',h3,h2⟩
theorem dc7 (k : FloatKind) (x y : Nat) (w : World) : ∃ r w',(Builtin.max2 (.float k x) (.float k y)).run P w = .ok (.float k r) w' ∧ Ext w w':=by
 obtain ⟨r,w',h1,h2⟩:=ao1 (P:=P) (.nanMinMax k true x y) w
 have h3 : (do pure (Value.float k (← choose (.nanMinMax k true x y))) : Sem Value).run P w = .ok (.float k r) w':=by
  rw [Sem.run_bind,h1]; rfl
 unfold Builtin.max2
 cases ho : k.format.order x y with
 | none=>exact ⟨r,w',by simpa [ho] using h3,h2⟩
 | some c=>cases c <;> exact ⟨_,w,by simp [ho]; rfl,.refl⟩
theorem c99 (k : FloatKind) (x y : Nat) (w : World) : ∃ r w',(Builtin.min2 (.float k x) (.float k y)).run P w = .ok (.float k r) w' ∧ Ext w w':=by
 obtain ⟨r,w',h1,h2⟩:=ao1 (P:=P) (.nanMinMax k false x y) w
 have h3 : (do pure (Value.float k (← choose (.nanMinMax k false x y))) : Sem Value).run P w = .ok (.float k r) w':=by
  rw [Sem.run_bind,h1]; rfl
 unfold Builtin.min2
 cases ho : k.format.order x y with
 | none=>exact ⟨r,w',by simpa [ho] using h3,h2⟩
 | some c=>cases c <;> exact ⟨_,w,by simp [ho]; rfl,.refl⟩
theorem bh8 (x : Int) : 0 ≤ IntKind.u32.wrap x ∧ IntKind.u32.wrap x ≤ 4294967295:=by simp [IntKind.wrap,IntKind.signed,IntKind.bits]; omega
theorem bm6 (k : FloatKind) (x : Nat) (w : World) : ∃ (n : Nat) (w' : World),(Conv.floatToInt k x .u32).run P w = .ok (.int .u32 n) w' ∧ n ≤ 4294967295 ∧ Ext w w':=by
 obtain ⟨r,w',h1,h2⟩:=ao1 (P:=P) (.floatToInt k x .u32) w
 have hw:=bh8 r
 have h3 : (do pure (Value.int .u32 (IntKind.u32.wrap (← choose (.floatToInt k x .u32)))) : Sem Value).run P w = .ok (.int .u32 ((IntKind.u32.wrap r).toNat : Nat)) w':=by
  rw [Sem.run_bind,h1,Int.toNat_of_nonneg hw.1]; rfl
 unfold Conv.floatToInt
 cases ho : (k.decode x).toInt .zero with
 | none=>exact ⟨(IntKind.u32.wrap r).toNat,w',h3,by omega,h2⟩
 | some n=>
  dsimp only
  by_cases hn : IntKind.u32.min ≤ n ∧ n ≤ IntKind.u32.max
  ·have h4 : 0 ≤ n ∧ n ≤ 4294967295:=by simpa [IntKind.min,IntKind.max,IntKind.signed,IntKind.bits] using hn
   rw [if_pos hn,← Int.toNat_of_nonneg h4.1]; exact ⟨n.toNat,w,rfl,by omega,.refl⟩
  rw [if_neg hn]; exact ⟨_,w',h3,by omega,h2⟩
class FloT (P : Program) (t : TypeId) (k : outParam FloatKind) : Prop where
 und : P.underlying t = some (.float k)
theorem F9 {c : Code} (h : Wp P n c (L6 K (J5 i (L6 K Q))) ρ w) : Wp P n c (J5 i (L6 K Q)) ρ w:=
 wp_mono h fun e ρ w h=>by cases e <;> exact h
theorem B5 {c : Code} (h : Wp P n c (L6 K (J5 i (J5 j (L6 K Q)))) ρ w) : Wp P n c (J5 i (J5 j (L6 K Q))) ρ w:=
 wp_mono h fun e ρ w h=>by cases e <;> exact h
section rules
variable {P : Program} {n : Nat} {Q : G8} {ρ : Fr} {w : World} {all rest : List Oper} {d : Tmp} {ty : TypeId} {pos : String} {aft : Array Edge}
theorem bz6 {op : BinOp} {k : FloatKind} {a : Nat} (hx : ev ρ x = .float k a) (hy : ev ρ y = .float k b) (ho : op = .add ∨ op = .sub ∨ op = .mul ∨ op = .quo)
  (h : ∀ r w',Ext w w' → WpR P n all Q rest (upd ρ d (.float k r)) w') : WpR P n all Q (⟨some d,.binOp op xt x y yt,ty,pos,aft,none⟩ :: rest) ρ w:=by
 obtain ⟨r,w',h1,h2⟩:=bm7 (P:=P) ho k a b w
 refine al0 rfl rfl ?_ (h r w' h2)
 rcases ho with rfl | rfl | rfl | rfl <;> simp [execOp,hx,hy,eqGuard,binOp,h1]
theorem d47 {k : FloatKind} {a : Nat} (hx : ev ρ x = .float k a) (hy : ev ρ y = .float k b)
  (h : ∀ r w',Ext w w' → WpR P n all Q rest (upd ρ d (.float k r)) w') : WpR P n all Q (⟨some d,.call ⟨.builtin .max,#[x,y],ts⟩,ty,pos,aft,none⟩ :: rest) ρ w:=by
 obtain ⟨r,w',h1,h2⟩:=dc7 (P:=P) k a b w
 refine al0 rfl rfl ?_ (h r w' h2)
 simp [execOp,resolve,invoke,builtin,hx,hy,Builtin.max_,h1]
theorem d37 {k : FloatKind} {a : Nat} (hx : ev ρ x = .float k a) (hy : ev ρ y = .float k b)
  (h : ∀ r w',Ext w w' → WpR P n all Q rest (upd ρ d (.float k r)) w') : WpR P n all Q (⟨some d,.call ⟨.builtin .min,#[x,y],ts⟩,ty,pos,aft,none⟩ :: rest) ρ w:=by
 obtain ⟨r,w',h1,h2⟩:=c99 (P:=P) k a b w
 refine al0 rfl rfl ?_ (h r w' h2)
 simp [execOp,resolve,invoke,builtin,hx,hy,Builtin.min_,h1]
theorem cz1 {dst : TypeId} [ss : IntT P src k0] [sd : FloT P dst kf] (hx : ev ρ x = .int k a)
  (h : ∀ r,WpR P n all Q rest (upd ρ d (.float kf r)) w) : WpR P n all Q (⟨some d,.convert src dst x,ty,pos,aft,none⟩ :: rest) ρ w:=by
 refine F1 (v:=.float kf (kf.nearest a)) rfl rfl ?_ (h _)
 simp [execOp,hx,convert,run_underlying ss.und,run_underlying sd.und,Conv.intToFloat]
theorem dp5 {dst : TypeId} {k : FloatKind} [ss : FloT P src kf] [sd : IntT P dst .u32] {a : Nat} (hx : ev ρ x = .float k a)
  (h : ∀ (m : Nat) w',m ≤ 4294967295 → Ext w w' → WpR P n all Q rest (upd ρ d (.int .u32 m)) w') : WpR P n all Q (⟨some d,.convert src dst x,ty,pos,aft,none⟩ :: rest) ρ w:=by
 obtain ⟨m,w',h1,h2,h3⟩:=bm6 (P:=P) k a w
 refine al0 rfl rfl ?_ (h m w' h2 h3)
 simp [execOp,hx,convert,run_underlying ss.und,run_underlying sd.und,h1]
end rules
def GivesE (P : Program) (f : FuncId) (args : List Value) (w : World) (Ψ : Value → World → Prop) (Φ : List PanicEntry → World → Prop) : Prop:=
 Calls P f args.toArray w fun e w'=>match e with | .returned v=>Ψ v w' | .panicked ch=>Φ ch w' | .outgrown=>False
theorem GivesE.mono {Ψ' : Value → World → Prop} {Φ' : List PanicEntry → World → Prop} (h : GivesE P f args w Ψ Φ)
  (k : ∀ v w',Ψ v w' → Ψ' v w') (l : ∀ c w',Φ c w' → Φ' c w') : GivesE P f args w Ψ' Φ':=
 Calls.mono h fun e w' he=>match e,he with
  | .returned _,h=>k _ _ h
  | .panicked _,h=>l _ _ h
  | .outgrown,h=>h
theorem Gives.e (h : Gives P f args w Ψ) : GivesE P f args w Ψ Φ:=
 Calls.mono h fun e w' ⟨v,he,hv⟩=>by subst he; exact hv
def ct7 (P : Program) (fn : Func) (Ψ : Value → World → Prop) (Φ : List PanicEntry → World → Prop) : G8:=fun e ρ w=>match e with
 | .normal | .ret=>∃ vs,S8 P ρ w fn.results.toList vs ∧ Ψ (be5 vs) w
 | .panic ch=>Φ ch w
 | _=>False
theorem cs4 {fn : Func} (h : az0 P fn Ψ .ret ρ w) : ct7 P fn Ψ Φ .ret ρ w:=h
theorem ay9 {fn : Func} (h : Φ ch w) : ct7 P fn Ψ Φ (.panic ch) ρ w:=h
theorem Q4 (h : Q (.panic ch) ρ w) : L6 K Q (.panic ch) ρ w:=h
theorem a68 (fn : Func) (hn0 : Nat.ble args.length fn.ntmps = true) :
  Mt fn.ntmps [] { tmps:=args.toArray ++ Array.replicate (fn.ntmps - args.toArray.size) undef,defers:=[] } (fun i=>args.getD i undef):=by
 have hn : args.length ≤ fn.ntmps:=Nat.le_of_ble_eq_true hn0
 refine ⟨by simp; omega,rfl,fun i=>?_⟩
 simp only [Array.getD_eq_getD_getElem?,List.getD_eq_getElem?_getD]
 rw [Array.getElem?_append]
 split
 ·simp
 rename_i hlt
 simp at hlt
 rw [List.getElem?_eq_none hlt]
 simp only [Array.getElem?_replicate]
 split <;> rfl
theorem br0 {fn : Func} {c : Code}
  (hf : P.funcs[f]? = some fn) (hb : fn.body = some c) (hok : O5 fn.ntmps c = true) (hn0 : Nat.ble args.length fn.ntmps = true)
  (h : Wp P fn.ntmps c (ct7 P fn Ψ Φ) (fun i=>args.getD i undef) w) : GivesE P f args w Ψ Φ:=by
 refine calls_of_wp hf hb ?_
 unfold Wp at h
 refine Go.wp_mono (h hok _ _ (a68 fn hn0)) ?_
 rintro e a w' ⟨ρ,hm',hq⟩
 cases e with
 | normal=>obtain ⟨vs,hr,hv⟩:=hq; exact ⟨hm'.defers,_,H7 hm' hr,hv⟩
 | ret=>obtain ⟨vs,hr,hv⟩:=hq; exact ⟨hm'.defers,_,H7 hm' hr,hv⟩
 | panic ch=>exact ⟨hm'.defers,hq⟩
 | _=>exact hq.elim
section rules
variable {P : Program} {n : Nat} {Q : G8} {ρ : Fr} {w : World} {all rest : List Oper} {d : Tmp} {ty : TypeId} {pos : String} {aft : Array Edge}
theorem dp3 (hx : ev ρ x = .iface t v) (h : Q (.panic [{ v:=.iface t v,recovered:=false }]) ρ w) :
  WpR P n all Q (⟨none,.panic x,ty,pos,aft,none⟩ :: rest) ρ w:=by
 unfold WpR
 intro hd D a hm
 refine wpList_plain rfl fun K hK=>?_
 unfold Oper.wp
 rw [hm.eval]
 have hr : (execOp (ev ρ) ⟨none,.panic x,ty,pos,aft,none⟩).run P w = .halt (.panic (.iface t v)) w:=by
  simp [execOp,hx,run_panic_iface]
 rw [hr]
 exact ⟨ρ,hm,h⟩
theorem b61 (hg : o.guard = none) (hdst : o.dst = some d) (hr : (execOp (ev ρ) o).run P w = .ok (.enter f args.toArray) w)
  (hc : GivesE P f args w Ψ Φ) (h : ∀ v w',Ψ v w' → WpR P n all Q rest (upd ρ d v) w') (hp : ∀ ch w',Φ ch w' → Q (.panic ch) ρ w') : WpR P n all Q (o :: rest) ρ w:=by
 unfold WpR at *
 intro hd D a hm
 simp only [List.all_cons,Bool.and_eq_true] at hd
 refine wpList_plain hg fun K hK=>?_
 unfold Oper.wp
 rw [hm.eval,hr]
 show Calls _ _ _ _ _
 refine Calls.mono hc fun e w' he=>?_
 cases e with
 | returned v=>
  have h3:=hm.putO hd.1 v
  rw [hdst] at h3 ⊢
  exact hK _ _ (h v w' he hd.2 _ _ h3)
 | panicked ch=>exact ⟨ρ,hm,hp ch w' he⟩
 | outgrown=>exact he.elim
theorem cp1 [ci : CallI P f] (hc : GivesE P f args w Ψ Φ) (ha : l.map (ev ρ) = args)
  (h : ∀ v w',Ψ v w' → WpR P n all Q rest (upd ρ d v) w') (hp : ∀ ch w',Φ ch w' → Q (.panic ch) ρ w') : WpR P n all Q (⟨some d,.call ⟨.value (.func f),l.toArray,ts⟩,ty,pos,aft,none⟩ :: rest) ρ w:=by
 refine b61 rfl rfl ?_ hc h hp
 subst ha
 simp [execOp,resolve,Deferred.ofValue,ev,invoke,ci.run]
theorem a17 [ci : CallI P f] {cap : List Value}
  (hx : ev ρ x = .func (.func f) first.toArray cap.toArray) (hc : GivesE P f args w Ψ Φ) (ha : first ++ l.map (ev ρ) ++ cap = args)
  (h : ∀ v w',Ψ v w' → WpR P n all Q rest (upd ρ d v) w') (hp : ∀ ch w',Φ ch w' → Q (.panic ch) ρ w') : WpR P n all Q (⟨some d,.call ⟨.value x,l.toArray,ts⟩,ty,pos,aft,none⟩ :: rest) ρ w:=by
 refine b61 rfl rfl ?_ hc h hp
 subst ha
 simp [execOp,resolve,Deferred.ofValue,hx,invoke,ci.run]
theorem ap1 [bt : BoolT P t] (a b : Bool) : (Op.equal t (.bool a) (.bool b)).run P w = .ok (a == b) w:=by
 unfold Op.equal Op.maxDepth Op.equalIn
 simp [run_underlying bt.und]
theorem c82 [bt : BoolT P xt] (hx : ev ρ x = .bool (tst p)) (hy : ev ρ y = .bool (tst q)) (h : WpR P n all Q rest (upd ρ d (.bool (tst (p ↔ q)))) w) :
  WpR P n all Q (⟨some d,.binOp .eql xt x y yt,ty,pos,aft,none⟩ :: rest) ρ w:=by
 have e : (tst p == tst q) = tst (p ↔ q):=by
  by_cases hp : p <;> by_cases hq : q
  ·rw [j6 hp,j6 hq,j6 ⟨fun _=>hq,fun _=>hp⟩]; rfl
  ·rw [j6 hp,j2 hq,j2 fun h=>hq (h.1 hp)]; rfl
  ·rw [j2 hp,j6 hq,j2 fun h=>hp (h.2 hq)]; rfl
  rw [j2 hp,j2 hq,j6 ⟨fun h=>(hp h).elim,fun h=>(hq h).elim⟩]; rfl
 refine F1 rfl rfl ?_ h
 rw [← e]
 simp [execOp,hx,hy,eqGuard,binOp,ap1]
theorem bw6 [bt : BoolT P xt] (hx : ev ρ x = .bool (tst p)) (hy : ev ρ y = .bool (tst q)) (h : WpR P n all Q rest (upd ρ d (.bool (tst (¬ (p ↔ q))))) w) :
  WpR P n all Q (⟨some d,.binOp .neq xt x y yt,ty,pos,aft,none⟩ :: rest) ρ w:=by
 have e : (tst p != tst q) = tst (¬ (p ↔ q)):=by
  by_cases hp : p <;> by_cases hq : q
  ·rw [j6 hp,j6 hq,j2 fun h=>h ⟨fun _=>hq,fun _=>hp⟩]; rfl
  ·rw [j6 hp,j2 hq,j6 fun h=>hq (h.1 hp)]; rfl
  ·rw [j2 hp,j6 hq,j6 fun h=>hp (h.2 hq)]; rfl
  rw [j2 hp,j2 hq,j2 fun h=>h ⟨fun h=>(hp h).elim,fun h=>(hq h).elim⟩]; rfl
 refine F1 rfl rfl ?_ h
 rw [← e]
 simp [execOp,hx,hy,eqGuard,binOp,ap1,bne]
theorem a96 (hx : ev ρ x = .bool (tst p)) (h : WpR P n all Q rest (upd ρ d (.bool (tst (¬ p)))) w) :
  WpR P n all Q (⟨some d,.unOp .not t x,ty,pos,aft,none⟩ :: rest) ρ w:=a26 hx (by rw [be8]; exact h)
theorem d46 {c : Int} (hx : ev ρ x = .int .u64 a) (hc : IntKind.u64.wrap (-a) = c) (h : WpR P n all Q rest (upd ρ d (.int .u64 c)) w) :
  WpR P n all Q (⟨some d,.unOp .neg t x,ty,pos,aft,none⟩ :: rest) ρ w:=
 F1 rfl rfl (by subst hc; simp [execOp,hx,Op.unary,Op.intArith]) h
class StcT (P : Program) (T : TypeId) (pl : outParam (List (Nat × Nat))) : Prop where
 ex : ∃ fs,P.underlying T = some (.struct fs) ∧ ∀ w,(fs.mapM fun f=>Prod.mk f.offset <$> sizeOf f.type : Sem _).run P w = .ok pl.toArray w
class IfcT (P : Program) (t : TypeId) : Prop where
 und : ∃ ms,P.underlying t = some (.interface ms)
theorem a48 [ti : TyI P T s b z agg] {pl : List (Nat × Nat)} [st : StcT P T pl] {parts : List (Nat × Operand)} {vs : List (Nat × Value)}
  (hz : z.cells = zs.toArray) (hv : (parts.map fun p=>(p.1,ev ρ p.2)) = vs) (hf : Instr.fill (fun i : Nat=>(pl[i]? : Option (Nat × Nat))) zs.toArray vs = some cs.toArray)
  (h : WpR P n all Q rest (upd ρ d (.agg cs.toArray)) w) : WpR P n all Q (⟨some d,.build T parts.toArray,ty,pos,aft,none⟩ :: rest) ρ w:=by
 obtain ⟨fs,h1,h2⟩:=st.ex
 refine F1 rfl rfl ?_ h
 subst hv
 have h3 : (fun i : Nat=>((pl.toArray)[i]? : Option (Nat × Nat))) = fun i : Nat=>(pl[i]? : Option (Nat × Nat)):=by funext i; simp
 simp [execOp,Instr.build,ti.runZero w,run_underlying h1,h2,hz,h3,hf]
theorem ar3 : Instr.fill pl zs.toArray [] = some zs.toArray:=rfl
theorem bh7 {r : List (Nat × Value)} {o : Option (Array Value)} (hp : pl i = some (off,1)) (h1 : v.oneCell' = true) (ho : off < zs.length)
  (h : Instr.fill pl (zs.set off v).toArray r = o) : Instr.fill pl zs.toArray ((i,v) :: r) = o:=by
 have hc : v.cells = #[v]:=am2 h1
 unfold Instr.fill
 simp only [hp,hc]
 have e : (#[v].size ≠ 1 || decide (off + #[v].size > zs.toArray.size)) = false:=by simp; omega
 rw [if_neg (by rw [e]; simp)]
 subst h
 simp
theorem a15 {a b : Value} {r : List (Nat × Value)} {o : Option (Array Value)} (hp : pl i = some (off,2)) (ho : off + 1 < zs.length)
  (h : Instr.fill pl ((zs.set off a).set (off + 1) b).toArray r = o) : Instr.fill pl zs.toArray ((i,.agg #[a,b]) :: r) = o:=by
 have hc : (Value.agg #[a,b]).cells = #[a,b]:=rfl
 unfold Instr.fill
 simp only [hp,hc]
 have e : (#[a,b].size ≠ 2 || decide (off + #[a,b].size > zs.toArray.size)) = false:=by simp; omega
 rw [if_neg (by rw [e]; simp)]
 subst h
 simp [Array.zipIdx]
end rules
section ends
variable {P : Program} {fn : Func} {Ψ : Value → World → Prop} {ρ : Fr} {w : World}
theorem da3 [ti : TyI P t s b z true] {a : Tmp} (h : ρ a = .pointer (some ⟨g,0,none⟩)) (hb : Blk w g T cs) (hs : cs.length = s) :
  a36 P ρ w (.cell a t) (.agg cs.toArray):=
 ⟨⟨g,0,none⟩,h,as6 ti hs fun i hi=>by rw [Nat.zero_add,List.getElem?_eq_getElem hi]; exact hb.cell (List.getElem?_eq_getElem hi)⟩
theorem n8 [ti : TyI P t s b z true] {a : Tmp} (hb : Blk w g T cs) (hs : cs.length = s) (h : ρ a = .pointer (some ⟨g,0,none⟩):=by conv=>(lhs; whnf)) : a36 P ρ w (.cell a t) (.agg cs.toArray):=
 da3 h hb hs
theorem W0 [ti : TyI P t s b z false] {a : Tmp} (h : ρ a = .pointer (some ⟨g,0,none⟩)) (hb : Blk w g T [v]) :
  a36 P ρ w (.cell a t) v:=⟨⟨g,0,none⟩,h,ad4 ti (hb.cell rfl)⟩
theorem B8 {t : Tmp} (h : ρ t = v) : a36 P ρ w (.tmp t) v:=h.symm
theorem R9 (hl : fn.results.toList = [r]) (h : a36 P ρ w r v) (hv : Ψ v w) : az0 P fn Ψ .ret ρ w:=
 ⟨[v],by rw [hl]; exact ⟨v,[],h,rfl,rfl⟩,hv⟩
theorem bk1 (hl : fn.results.toList = [r,r2]) (h : a36 P ρ w r v) (h2 : a36 P ρ w r2 v2) (hv : Ψ (.tuple #[v,v2]) w) : az0 P fn Ψ .ret ρ w:=
 ⟨[v,v2],by rw [hl]; exact ⟨v,[v2],h,⟨v2,[],h2,rfl,rfl⟩,rfl⟩,hv⟩
theorem dl8 {r3 : ResultVar} {v3 : Value} (hl : fn.results.toList = [r,r2,r3]) (h : a36 P ρ w r v) (h2 : a36 P ρ w r2 v2) (h3 : a36 P ρ w r3 v3) (hv : Ψ (.tuple #[v,v2,v3]) w) : az0 P fn Ψ .ret ρ w:=
 ⟨[v,v2,v3],by rw [hl]; exact ⟨v,[v2,v3],h,⟨v2,[v3],h2,⟨v3,[],h3,rfl,rfl⟩,rfl⟩,rfl⟩,hv⟩
end ends
end Go.Proofs.YtmkhgjccoolfjaaGreatDoor
end
section
namespace Go.Proofs.YtmkhgjccoolfjaaGreatDoor
open Go Tryz
instance y9 : IntT prog 2 .i64:=⟨underlying2⟩
instance y10 : TyI prog 3 1 8 (.int .i64 0) false:=⟨by kernel_rfl,by rfl,by kernel_rfl⟩
instance y11 : IntT prog 3 .i64:=⟨underlying3⟩
instance y12 : TyI prog 4 1 1 (.bool false) false:=⟨by kernel_rfl,by rfl,by kernel_rfl⟩
instance y13 : BoolT prog 4:=⟨underlying4⟩
instance y14 : TyI prog 5 1 1 (.int .u8 0) false:=⟨by kernel_rfl,by rfl,by kernel_rfl⟩
instance y15 : IntT prog 5 .u8:=⟨underlying5⟩
instance y20 : FldT prog 7 0 0:=⟨⟨_,_,Tryz.t2,underlying7,rfl,rfl,by kernel_rfl,by decide⟩⟩
instance y21 : FldT prog 7 1 1:=⟨⟨_,_,Tryz.t3,underlying7,rfl,rfl,by kernel_rfl,by decide⟩⟩
instance y30 : TyI prog 9 1 16 (.string { data:=#[] }) false:=⟨by kernel_rfl,by rfl,by kernel_rfl⟩
instance y31 : StrT prog 9:=⟨underlying9⟩
instance y32 : TyI prog 10 1 16 (.string { data:=#[] }) false:=⟨by kernel_rfl,by rfl,by kernel_rfl⟩
instance y40 : FldT prog 13 0 0:=⟨⟨_,_,Tryz.t9,underlying13,rfl,rfl,by kernel_rfl,by decide⟩⟩
instance y41 : FldT prog 13 1 1:=⟨⟨_,_,Tryz.t12,underlying13,rfl,rfl,by kernel_rfl,by decide⟩⟩
instance y42 : TyI prog 14 2 24 (.agg #[.string { data:=#[] },.int .u64 0]) true:=⟨by kernel_rfl,by rfl,by kernel_rfl⟩
instance y43 : StcT prog 14 [(0,1),(1,1)]:=⟨⟨_,underlying14,fun w=>by kernel_rfl⟩⟩
instance y50 : StcT prog 18 [(0,1)]:=⟨⟨_,underlying18,fun w=>by kernel_rfl⟩⟩
instance y51 : FldT prog 18 0 0:=⟨⟨_,_,Tryz.t17,underlying18,rfl,rfl,by kernel_rfl,by decide⟩⟩
instance y52 : TyI prog 19 1 8 (.agg #[.pointer none]) true:=⟨by kernel_rfl,by rfl,by kernel_rfl⟩
instance y53 : StcT prog 19 [(0,1)]:=⟨⟨_,underlying19,fun w=>by kernel_rfl⟩⟩
instance y54 : FldT prog 19 0 0:=⟨⟨_,_,Tryz.t17,underlying19,rfl,rfl,by kernel_rfl,by decide⟩⟩
instance y56 : IfcT prog 20:=⟨⟨_,underlying20⟩⟩
instance y64 : TyI prog 26 1 24 (.slice none 0 0) false:=⟨by kernel_rfl,by rfl,by kernel_rfl⟩
instance y65 : SlT prog 26 3:=⟨underlying26⟩
instance y70 : TyI prog 28 2 32 (.agg #[.bool false,.slice none 0 0]) true:=⟨by kernel_rfl,by rfl,by kernel_rfl⟩
instance y71 : StcT prog 28 [(0,1),(1,1)]:=⟨⟨_,underlying28,fun w=>by kernel_rfl⟩⟩
instance y72 : FldT prog 28 0 0:=⟨⟨_,_,Tryz.t4,underlying28,rfl,rfl,by kernel_rfl,by decide⟩⟩
instance y73 : FldT prog 28 1 1:=⟨⟨_,_,Tryz.t26,underlying28,rfl,rfl,by kernel_rfl,by decide⟩⟩
instance y78 : TyI prog 30 4 64 (.agg #[.bool false,.slice none 0 0,.bool false,.slice none 0 0]) true:=⟨by kernel_rfl,by rfl,by kernel_rfl⟩
instance y79 : StcT prog 30 [(0,2),(2,2)]:=⟨⟨_,underlying30,fun w=>by kernel_rfl⟩⟩
instance y80 : FldT prog 30 0 0:=⟨⟨_,_,Tryz.t28,underlying30,rfl,rfl,by kernel_rfl,by decide⟩⟩
instance y81 : FldT prog 30 1 2:=⟨⟨_,_,Tryz.t28,underlying30,rfl,rfl,by kernel_rfl,by decide⟩⟩
instance y102 : TyI prog 49 1 24 (.slice none 0 0) false:=⟨by kernel_rfl,by rfl,by kernel_rfl⟩
instance y103 : SlT prog 49 227:=⟨underlying49⟩
instance y108 : TyI prog 51 2 32 (.agg #[.bool false,.slice none 0 0]) true:=⟨by kernel_rfl,by rfl,by kernel_rfl⟩
instance y109 : StcT prog 51 [(0,1),(1,1)]:=⟨⟨_,underlying51,fun w=>by kernel_rfl⟩⟩
instance y110 : FldT prog 51 0 0:=⟨⟨_,_,Tryz.t4,underlying51,rfl,rfl,by kernel_rfl,by decide⟩⟩
instance y111 : FldT prog 51 1 1:=⟨⟨_,_,Tryz.t49,underlying51,rfl,rfl,by kernel_rfl,by decide⟩⟩
instance y116 : TyI prog 53 3 56 (.agg #[.bool false,.slice none 0 0,.slice none 0 0]) true:=⟨by kernel_rfl,by rfl,by kernel_rfl⟩
instance y117 : StcT prog 53 [(0,2),(2,1)]:=⟨⟨_,underlying53,fun w=>by kernel_rfl⟩⟩
instance y118 : FldT prog 53 0 0:=⟨⟨_,_,Tryz.t51,underlying53,rfl,rfl,by kernel_rfl,by decide⟩⟩
instance y119 : FldT prog 53 1 2:=⟨⟨_,_,Tryz.t49,underlying53,rfl,rfl,by kernel_rfl,by decide⟩⟩
instance y121 : TyI prog 55 9 168 (.agg #[.bool false,.slice none 0 0,.slice none 0 0,.bool false,.slice none 0 0,.slice none 0 0,.bool false,.slice none 0 0,.slice none 0 0]) true:=⟨by kernel_rfl,by rfl,by kernel_rfl⟩
instance y122 : TyI prog 56 1 8 (.int .i64 0) false:=⟨by kernel_rfl,by rfl,by kernel_rfl⟩
instance y226 : TyI prog 162 1 8 (.agg #[.int .i64 0]) true:=⟨by kernel_rfl,by rfl,by kernel_rfl⟩
instance y227 : StcT prog 162 [(0,1)]:=⟨⟨_,underlying162,fun w=>by kernel_rfl⟩⟩
instance y228 : FldT prog 162 0 0:=⟨⟨_,_,Tryz.t56,underlying162,rfl,rfl,by kernel_rfl,by decide⟩⟩
instance y247 : TyI prog 178 4 64 (.agg #[.bool false,.slice none 0 0,.slice none 0 0,.bool false]) true:=⟨by kernel_rfl,by rfl,by kernel_rfl⟩
instance y269 : IntT prog 197 .u64:=⟨underlying197⟩
instance y277 : TyI prog 204 0 0 (.agg #[]) true:=⟨by kernel_rfl,by rfl,by kernel_rfl⟩
instance y278 : StcT prog 204 []:=⟨⟨_,underlying204,fun w=>by kernel_rfl⟩⟩
instance y289 : TyI prog 218 1 8 (.pointer none) false:=⟨by kernel_rfl,by rfl,by kernel_rfl⟩
instance y290 : TyI prog 219 1 24 (.slice none 0 0) false:=⟨by kernel_rfl,by rfl,by kernel_rfl⟩
instance y291 : SlT prog 219 5:=⟨underlying219⟩
instance y296 : TyI prog 221 2 32 (.agg #[.pointer none,.slice none 0 0]) true:=⟨by kernel_rfl,by rfl,by kernel_rfl⟩
instance y298 : FldT prog 221 0 0:=⟨⟨_,_,Tryz.t218,underlying221,rfl,rfl,by kernel_rfl,by decide⟩⟩
instance y299 : FldT prog 221 1 1:=⟨⟨_,_,Tryz.t219,underlying221,rfl,rfl,by kernel_rfl,by decide⟩⟩
instance y306 : TyI prog 227 1 4 (.int .u32 0) false:=⟨by kernel_rfl,by rfl,by kernel_rfl⟩
instance y307 : IntT prog 227 .u32:=⟨underlying227⟩
instance y325 : FloT prog 248 Go.FloatKind.f64:=⟨underlying248⟩
instance y452 : CallI prog 6:=⟨call6⟩
instance y453 : CallI prog 7:=⟨call7⟩
instance y454 : CallI prog 8:=⟨call8⟩
instance y455 : CallI prog 9:=⟨call9⟩
instance y456 : CallI prog 10:=⟨call10⟩
instance y457 : CallI prog 11:=⟨call11⟩
instance y458 : CallI prog 12:=⟨call12⟩
instance y459 : CallI prog 13:=⟨call13⟩
instance y460 : CallI prog 14:=⟨call14⟩
instance y461 : CallI prog 15:=⟨call15⟩
instance y462 : CallI prog 16:=⟨call16⟩
instance y463 : CallI prog 17:=⟨call17⟩
instance y464 : CallI prog 18:=⟨call18⟩
instance y465 : CallI prog 19:=⟨call19⟩
instance y466 : CallI prog 20:=⟨call20⟩
instance y467 : CallI prog 21:=⟨call21⟩
instance y468 : CallI prog 22:=⟨call22⟩
instance y469 : CallI prog 23:=⟨call23⟩
instance y470 : CallI prog 24:=⟨call24⟩
instance y471 : CallI prog 25:=⟨call25⟩
instance y472 : CallI prog 26:=⟨call26⟩
instance y473 : CallI prog 27:=⟨call27⟩
instance y474 : CallI prog 28:=⟨call28⟩
instance y477 : CallI prog 31:=⟨call31⟩
instance y489 : CallI prog 43:=⟨call43⟩
instance y491 : CallI prog 45:=⟨call45⟩
instance y492 : CallI prog 46:=⟨call46⟩
instance y493 : CallI prog 47:=⟨call47⟩
instance y494 : CallI prog 48:=⟨call48⟩
instance y495 : CallI prog 49:=⟨call49⟩
instance y496 : CallI prog 50:=⟨call50⟩
instance y497 : CallI prog 51:=⟨call51⟩
instance y498 : CallI prog 52:=⟨call52⟩
instance y499 : CallI prog 53:=⟨call53⟩
instance y500 : CallI prog 54:=⟨call54⟩
instance y501 : CallI prog 55:=⟨call55⟩
instance y502 : CallI prog 56:=⟨call56⟩
instance y503 : CallI prog 57:=⟨call57⟩
instance y504 : CallI prog 58:=⟨call58⟩
instance y505 : CallI prog 59:=⟨call59⟩
instance y506 : CallI prog 60:=⟨call60⟩
instance y507 : CallI prog 61:=⟨call61⟩
instance y508 : CallI prog 62:=⟨call62⟩
instance y509 : CallI prog 63:=⟨call63⟩
instance y510 : CallI prog 64:=⟨call64⟩
instance y511 : CallI prog 65:=⟨call65⟩
instance y512 : CallI prog 66:=⟨call66⟩
instance y513 : CallI prog 67:=⟨call67⟩
instance y514 : CallI prog 68:=⟨call68⟩
instance y515 : CallI prog 69:=⟨call69⟩
instance y516 : CallI prog 70:=⟨call70⟩
instance y517 : CallI prog 71:=⟨call71⟩
instance y518 : CallI prog 72:=⟨call72⟩
instance y519 : CallI prog 73:=⟨call73⟩
instance y520 : CallI prog 74:=⟨call74⟩
instance y521 : CallI prog 75:=⟨call75⟩
instance y522 : CallI prog 76:=⟨call76⟩
instance y523 : CallI prog 77:=⟨call77⟩
instance y524 : CallI prog 78:=⟨call78⟩
instance y525 : CallI prog 79:=⟨call79⟩
instance y526 : CallI prog 80:=⟨call80⟩
instance y527 : CallI prog 81:=⟨call81⟩
instance y528 : CallI prog 82:=⟨call82⟩
instance y529 : CallI prog 83:=⟨call83⟩
instance y530 : CallI prog 84:=⟨call84⟩
instance y531 : CallI prog 85:=⟨call85⟩
instance y532 : CallI prog 86:=⟨call86⟩
instance y533 : CallI prog 87:=⟨call87⟩
instance y534 : CallI prog 88:=⟨call88⟩
instance y535 : CallI prog 89:=⟨call89⟩
instance y537 : CallI prog 91:=⟨call91⟩
instance y538 : CallI prog 92:=⟨call92⟩
instance y556 : CallI prog 110:=⟨call110⟩
instance y557 : CallI prog 111:=⟨call111⟩
instance y558 : CallI prog 112:=⟨call112⟩
instance y559 : CallI prog 113:=⟨call113⟩
instance y560 : CallI prog 114:=⟨call114⟩
instance y561 : CallI prog 115:=⟨call115⟩
instance y562 : CallI prog 116:=⟨call116⟩
instance y563 : CallI prog 117:=⟨call117⟩
instance y564 : CallI prog 118:=⟨call118⟩
instance y565 : CallI prog 119:=⟨call119⟩
instance y566 : CallI prog 120:=⟨call120⟩
instance y567 : CallI prog 121:=⟨call121⟩
instance y568 : CallI prog 122:=⟨call122⟩
instance y569 : CallI prog 123:=⟨call123⟩
instance y570 : CallI prog 124:=⟨call124⟩
instance y571 : CallI prog 125:=⟨call125⟩
instance y572 : CallI prog 126:=⟨call126⟩
instance y573 : CallI prog 127:=⟨call127⟩
instance y574 : CallI prog 128:=⟨call128⟩
instance y575 : CallI prog 129:=⟨call129⟩
instance y576 : CallI prog 130:=⟨call130⟩
instance y577 : CallI prog 131:=⟨call131⟩
instance y578 : CallI prog 132:=⟨call132⟩
instance y579 : CallI prog 133:=⟨call133⟩
instance y580 : CallI prog 134:=⟨call134⟩
instance y581 : CallI prog 135:=⟨call135⟩
instance y582 : CallI prog 136:=⟨call136⟩
instance y583 : CallI prog 137:=⟨call137⟩
instance y584 : CallI prog 138:=⟨call138⟩
instance y585 : CallI prog 139:=⟨call139⟩
instance y586 : CallI prog 140:=⟨call140⟩
instance y587 : CallI prog 141:=⟨call141⟩
instance y588 : CallI prog 142:=⟨call142⟩
instance y589 : CallI prog 143:=⟨call143⟩
instance y590 : CallI prog 144:=⟨call144⟩
instance y591 : CallI prog 145:=⟨call145⟩
instance y597 : CallI prog 151:=⟨call151⟩
instance y598 : CallI prog 152:=⟨call152⟩
instance y599 : CallI prog 153:=⟨call153⟩
instance y600 : CallI prog 154:=⟨call154⟩
instance y601 : CallI prog 155:=⟨call155⟩
instance y602 : CallI prog 156:=⟨call156⟩
instance y603 : CallI prog 157:=⟨call157⟩
instance y604 : CallI prog 158:=⟨call158⟩
instance y605 : CallI prog 159:=⟨call159⟩
instance y606 : CallI prog 160:=⟨call160⟩
instance y607 : CallI prog 161:=⟨call161⟩
instance y608 : CallI prog 162:=⟨call162⟩
instance y609 : CallI prog 163:=⟨call163⟩
instance y610 : CallI prog 164:=⟨call164⟩
instance y611 : CallI prog 165:=⟨call165⟩
instance y612 : CallI prog 166:=⟨call166⟩
instance y613 : CallI prog 167:=⟨call167⟩
instance y614 : CallI prog 168:=⟨call168⟩
instance y615 : CallI prog 169:=⟨call169⟩
instance y616 : CallI prog 170:=⟨call170⟩
instance y617 : CallI prog 171:=⟨call171⟩
instance y618 : CallI prog 172:=⟨call172⟩
instance y619 : CallI prog 173:=⟨call173⟩
instance y620 : CallI prog 174:=⟨call174⟩
instance y621 : CallI prog 175:=⟨call175⟩
instance y622 : CallI prog 176:=⟨call176⟩
instance y623 : CallI prog 177:=⟨call177⟩
instance y624 : CallI prog 178:=⟨call178⟩
instance y625 : CallI prog 179:=⟨call179⟩
instance y626 : CallI prog 180:=⟨call180⟩
instance y627 : CallI prog 181:=⟨call181⟩
instance y628 : CallI prog 182:=⟨call182⟩
instance y629 : CallI prog 183:=⟨call183⟩
instance y630 : CallI prog 184:=⟨call184⟩
instance y632 : CallI prog 186:=⟨call186⟩
instance y633 : CallI prog 187:=⟨call187⟩
instance y634 : CallI prog 188:=⟨call188⟩
instance y635 : CallI prog 189:=⟨call189⟩
instance y636 : CallI prog 190:=⟨call190⟩
instance y637 : CallI prog 191:=⟨call191⟩
instance y638 : CallI prog 192:=⟨call192⟩
instance y639 : CallI prog 193:=⟨call193⟩
instance y640 : CallI prog 194:=⟨call194⟩
instance y641 : CallI prog 195:=⟨call195⟩
instance y642 : CallI prog 196:=⟨call196⟩
instance y643 : CallI prog 197:=⟨call197⟩
instance y644 : CallI prog 198:=⟨call198⟩
instance y646 : CallI prog 200:=⟨call200⟩
instance y647 : CallI prog 201:=⟨call201⟩
instance y648 : CallI prog 202:=⟨call202⟩
instance y654 : CallI prog 208:=⟨call208⟩
instance y655 : CallI prog 209:=⟨call209⟩
instance y656 : CallI prog 210:=⟨call210⟩
instance y657 : CallI prog 211:=⟨call211⟩
instance y658 : CallI prog 212:=⟨call212⟩
instance y659 : CallI prog 213:=⟨call213⟩
instance y660 : CallI prog 214:=⟨call214⟩
instance y661 : CallI prog 215:=⟨call215⟩
instance y662 : CallI prog 216:=⟨call216⟩
instance y677 : CallI prog 232:=⟨call232⟩
instance y678 : CallI prog 233:=⟨call233⟩
instance y679 : CallI prog 234:=⟨call234⟩
instance y680 : CallI prog 235:=⟨call235⟩
instance y681 : CallI prog 236:=⟨call236⟩
instance y682 : CallI prog 237:=⟨call237⟩
end Go.Proofs.YtmkhgjccoolfjaaGreatDoor
end
section
namespace Go.Proofs.YtmkhgjccoolfjaaGreatDoor
open Go Go.RowKit Tryz
variable {S : Nat → Prop} {base s m b c g i id : Nat} {T t : TypeId} {w w' : World} {v z : Value} {xs cs : List Value} {x y : Operand} {ts : Array TypeId} {k : IntKind} {a : Int} {agg : Bool} {listed : Array Bool} {o : Oper} {Q : Exit → Act → World → Prop} {D : List Deferred} {F : Fr} {l : List Oper}
abbrev Own (base : Nat) (T : TypeId) (s : Nat) (w : World) (v : Value) (m : Nat) (xs : List Value) : Prop:=w.ownsRow base T s v m xs
theorem ad1 (h : Own base T s w v m xs) (k : Keeps S w w') (hS : ∀ g,v.ownBlock = some g → S g) : Own base T s w' v m xs:=by
 refine ⟨h.1,?_⟩
 rcases h.2 with hn | ⟨g,cap,cur,rfl,hb,hg,rest⟩
 ·exact .inl hn
 exact .inr ⟨g,cap,cur,rfl,hb,(k.block g (Array.getElem?_eq_some_iff.1 hg).1 (hS g rfl)).trans hg,rest⟩
theorem ab6 (h : Own base T s w v m xs) (k : Ext w w') : Own base T s w' v m xs:=ad1 h k fun _ _=>trivial
theorem ab9 : Own base T s w (.slice none 0 0) 0 []:=World.ownsRow_nil w base T s
theorem c59 {cap : Nat} (h : Blk w b T cs) (hb : base ≤ b) (hm : cap ≤ maxLen) (hs : cs.length = cap * s) : Own base T s w (.slice (some ⟨b,0,none⟩) 0 cap) 0 []:=
 ⟨by simp,.inr ⟨b,cap,cs.toArray,rfl,hb,h,Nat.zero_le _,hm,by simpa using hs,by simp⟩⟩
theorem av4 (h : Blk w b T cs) (hb : base ≤ b) (hm : m ≤ maxLen) (hs : cs.length = m * s) : Own base T s w (.slice (some ⟨b,0,none⟩) m m) m cs:=
 ⟨hs,.inr ⟨b,m,cs.toArray,rfl,hb,h,Nat.le_refl _,hm,by simpa using hs,by simp [← hs]⟩⟩
theorem Keeps.own (h : Own base T s w v m xs) (k : Keeps (fun k=>some k ≠ v.ownBlock) w w') : Keeps (fun k=>k < base) w w':=
 k.mono fun i hi e=>by have:=(h.lt i e.symm).1; omega
section rules
variable {P : Program} {n : Nat} {Q : G8} {ρ : Fr} {w : World} {all rest : List Oper} {d : Tmp} {ty : TypeId} {pos : String} {aft : Array Edge}
theorem c51 {b : Int} (hx : ev ρ x = .int k a) (hy : ev ρ y = .int k b) (h : WpR P n all Q rest (upd ρ d (.int k (max a b))) w) :
  WpR P n all Q (⟨some d,.call ⟨.builtin .max,#[x,y],ts⟩,ty,pos,aft,none⟩ :: rest) ρ w:=by
 refine F1 rfl rfl ?_ h
 have e : (if b > a then b else a) = max a b:=by split <;> omega
 simp [execOp,resolve,invoke,builtin,hx,hy,run_max_int2,e]
theorem fa8 {b : Int} (hx : ev ρ x = .int k a) (hy : ev ρ y = .int k b) (h : WpR P n all Q rest (upd ρ d (.int k (min a b))) w) :
  WpR P n all Q (⟨some d,.call ⟨.builtin .min,#[x,y],ts⟩,ty,pos,aft,none⟩ :: rest) ρ w:=by
 refine F1 rfl rfl ?_ h
 simp [execOp,resolve,invoke,builtin,hx,hy,run_min_int2]
 omega
theorem ab4 [st : SlT P t T] [ti : TyI P T 1 b z agg] (hx : ev ρ x = v) (h1 : v.oneCell' = true)
  (h : ∀ w' g,Ext w w' → Blk w' g T [v] → w.heap.size ≤ g → WpR P n all Q rest (upd ρ d (.slice (some ⟨g,0,none⟩) 1 1)) w') :
  WpR P n all Q (⟨some d,.buildSlice t 1 #[(0,x)],ty,pos,aft,none⟩ :: rest) ρ w:=by
 have hc : v.cells = #[v]:=by cases v <;> first | rfl | cases h1
 refine al0 (w':=w.alloc (.cells [v].toArray T)) rfl rfl ?_ (h _ w.heap.size (R1 _ _) (Blk.new _ _ _) (Nat.le_refl _))
 have hz:=ti.zsize
 simp [execOp,hx,Instr.buildSlice,run_underlying st.und,ti.runSize w,ti.runZero w,Instr.fill,hc,newRow]
 have e : ∀ f : Nat → Value,(Array.map f (Array.range 1)).setIfInBounds 0 v = #[v]:=fun f=>by
  refine Array.ext (by simp) fun i h2 h3=>?_
  obtain rfl : i = 0:=by simp at h3; omega
  simp
 rw [e]
theorem bb1 [st : SlT P t T] [ti : TyI P T s b z agg] {I J : Int} {l : Nat} (hx : ev ρ x = .int .i64 I) (hy : ev ρ y = .int .i64 J) (hI : I = (l : Int)) (hJ : J = (c : Int))
  (hlc : l ≤ c) (hb : b * c ≤ 281474976710656) (hc : c ≤ maxLen)
  (h : ∀ w' g,Ext w w' → Blk w' g T (madeCells z.cells (c * s)).toList → w.heap.size ≤ g → WpR P n all Q rest (upd ρ d (.slice (some ⟨g,0,none⟩) l c)) w') :
  WpR P n all Q (⟨some d,.makeSlice t x y,ty,pos,aft,none⟩ :: rest) ρ w:=by
 obtain ⟨i,hi,h1,h2,h3⟩:=ti.ex
 subst hI hJ
 have hm:=hc
 unfold maxLen at hm
 have hb4 : (b : Int) * (c : Int) ≤ 281474976710656:=by
  have h4 : ((b * c : Nat) : Int) ≤ 281474976710656:=by omega
  rwa [Int.natCast_mul] at h4
 have hr:=run_make (P:=P) w t T i z st.und hi h3 .i64 .i64 (l : Int) (c : Int) (by omega) (by omega) (by rw [h2]; exact hb4) (by omega)
 rw [h1] at hr
 have hn:=h (w.alloc (.cells (madeCells z.cells (c * s)) T)) w.heap.size (R1 _ _) (by have:=Blk.new w T (madeCells z.cells (c * s)).toList; simpa using this) (Nat.le_refl _)
 refine al0 rfl rfl ?_ hn
 simp only [Int.toNat_natCast] at hr
 simp [execOp,hx,hy,hr]
theorem b65 [st : SlT P t T] [ti : TyI P T s b z agg] {k : Nat} {news : List Value} {ad : Addr}
  (hx : ev ρ x = v) (hown : Own base T s w v m xs) (hy : ev ρ y = .slice (some ad) k c) (hs : 0 < s) (hnl : news.length = k * s) (hnews : ∀ j u,news[j]? = some u → w.cell? (ad.add j) = some u) (h1 : ∀ u ∈ news,u.oneCell' = true)
  (hlen : m + k ≤ maxLen) (hbytes : (m + k) * b ≤ 140737488355328) (hbase : base ≤ w.heap.size)
  (h : ∀ v' w',Own base T s w' v' (m + k) (xs ++ news) → Keeps (fun i=>some i ≠ v.ownBlock) w w' → WpR P n all Q rest (upd ρ d v') w') :
  WpR P n all Q (⟨some d,.call ⟨.builtin .append,#[x,y],#[t,t]⟩,ty,pos,aft,none⟩ :: rest) ρ w:=by
 obtain ⟨i,hi,e1,e2,e3⟩:=ti.ex
 obtain ⟨v',w',hr,h2,h3,h4⟩:=run_append_own (P:=P) w base t ty T i z s b st.und hi e3 e1 e2 ti.zsize hs v m xs hown ad k c news hnl hnews h1 hlen hbytes hbase
 refine al0 rfl rfl ?_ (h v' w' h2 (.of_grown h3))
 simp [execOp,resolve,invoke,builtin,hx,hy,hr]
theorem bz0 [st : SlT P t T] [ti : TyI P T s b z agg]
  (hx : ev ρ x = v) (hown : Own base T s w v m xs) (hy : ev ρ y = .slice none 0 0) (h : WpR P n all Q rest (upd ρ d v) w) :
  WpR P n all Q (⟨some d,.call ⟨.builtin .append,#[x,y],#[t,t]⟩,ty,pos,aft,none⟩ :: rest) ρ w:=by
 obtain ⟨i,hi,e1,e2,e3⟩:=ti.ex
 have hr:=run_append_owned_none (P:=P) (w:=w) base t ty T i s st.und hi v m xs hown
 refine F1 rfl rfl ?_ h
 simp [execOp,resolve,invoke,builtin,hx,hy,hr]
theorem U2 [st : SlT P t T] [ti : TyI P T s b z agg]
  (hx : ev ρ x = v) (hown : Own base T s w v m xs) (hy : ev ρ y = .slice (some ⟨g,0,none⟩) 1 1) (hb : Blk w g T cs) (hs : 0 < s) (hcl : cs.length = s) (h1 : ∀ u ∈ cs,u.oneCell' = true)
  (hlen : m + 1 ≤ maxLen) (hbytes : (m + 1) * b ≤ 140737488355328) (hbase : base ≤ w.heap.size)
  (h : ∀ v' w',Own base T s w' v' (m + 1) (xs ++ cs) → Keeps (fun i=>some i ≠ v.ownBlock) w w' → WpR P n all Q rest (upd ρ d v') w') :
  WpR P n all Q (⟨some d,.call ⟨.builtin .append,#[x,y],#[t,t]⟩,ty,pos,aft,none⟩ :: rest) ρ w:=by
 refine b65 hx hown hy hs (by omega) (fun j u hu=>?_) h1 hlen hbytes hbase h
 have ha : (⟨g,0,none⟩ : Addr).add j = ⟨g,j,none⟩:=by
  unfold Addr.add
  split <;> simp_all
 rw [ha]
 exact hb.cell hu
theorem a47 [st : SlT P t T] [ti : TyI P T s b z agg] {va : Value} {k : Nat}
  (hx : ev ρ x = v) (hown : Own base T s w v m xs) (hy : ev ρ y = va) (hr : Row S T s w va k cs) (hs : 0 < s) (h1 : ∀ u ∈ cs,u.oneCell' = true)
  (hlen : m + k ≤ maxLen) (hbytes : (m + k) * b ≤ 140737488355328) (hbase : base ≤ w.heap.size)
  (h : ∀ v' w',Own base T s w' v' (m + k) (xs ++ cs) → Keeps (fun i=>some i ≠ v.ownBlock) w w' → WpR P n all Q rest (upd ρ d v') w') :
  WpR P n all Q (⟨some d,.call ⟨.builtin .append,#[x,y],#[t,t]⟩,ty,pos,aft,none⟩ :: rest) ρ w:=by
 rcases hr.2 with ⟨h2,h3⟩ | ⟨g,off,cap,arr,fr,hv,h2,h3,h4,hg,h5,h6⟩
 ·have hl:=hr.1
  subst h3
  obtain rfl : cs = []:=List.eq_nil_of_length_eq_zero (by simpa using hl)
  exact bz0 hx hown (hy.trans h2) (by simpa using h v w (by simpa using hown) .refl)
 refine b65 hx hown (hy.trans hv) hs hr.1 (fun j u hu=>?_) h1 hlen hbytes hbase h
 have ha : (⟨g,off,none⟩ : Addr).add j = ⟨g,off + j,none⟩:=by
  unfold Addr.add
  split <;> simp_all
 have:=hr.cell hu
 rw [hv] at this
 rw [ha]
 exact this
end rules
structure Ent where
 X : Option Value
 p : Value → World → Prop
 keep : ∀ v w w',p v w → Ext w w' → p v w'
 hX : ∀ v w Y,p v w → X = some Y → v = Y
 hY : ∀ Y w,X = some Y → p Y w
 fr : Bool
 hfr : fr = true → ∀ v w,p v w → ∃ g,v = .pointer (some ⟨g,0,none⟩) ∧ g < w.heap.size
def Ent.eq (Y : Value) : Ent:=⟨some Y,fun v _=>v = Y,fun _ _ _ h _=>h,fun v w Z h hZ=>by simp at hZ; rw [← hZ]; exact h,fun Z w hZ=>by simp at hZ; exact hZ.symm,false,fun h=>by cases h⟩
def Ent.of (p : Value → World → Prop) (h : ∀ v w w',p v w → Ext w w' → p v w') : Ent:=⟨none,p,h,fun v w Y _ h=>by simp at h,fun Y w h=>by simp at h,false,fun h=>by cases h⟩
def Ent.new (b : Nat) (T : TypeId) (cs : List Value) : Ent:=
 ⟨none,fun v w=>∃ g,v = .pointer (some ⟨g,0,none⟩) ∧ Blk w g T cs ∧ b ≤ g,fun v w w' ⟨g,h,hb,hg⟩ k=>⟨g,h,hb.to k,hg⟩,fun v w Y _ h=>by simp at h,fun Y w h=>by simp at h,true,fun _ v w ⟨g,h,hb,_⟩=>⟨g,h,hb.lt⟩⟩
def E9 : List Edge → Nat → Bool
 | [],_=>false
 | e :: r,j=>bif Nat.beq e.on j && Region.binds .any e then true else E9 r j
abbrev Acc:=List (Nat × Option Tmp × Ent)
def frA (ρ : Fr) (x : Nat → Value) : Acc → Fr
 | []=>ρ
 | (i,d,e) :: r=>ar1 (frA ρ x r) d (e.X.getD (x i))
def bt3 (x : Nat → Value) (w : World) (es : List Edge) : Acc → Prop
 | []=>True
 | (i,_,e) :: r=>(bif E9 es i then e.p (e.X.getD (x i)) w else True) ∧ bt3 x w es r
def b40 (x : Nat → Value) (w : World) : Acc → Prop
 | []=>True
 | (i,_,e) :: r=>e.p (e.X.getD (x i)) w ∧ b40 x w r
def bz3 (x : Nat → Value) (v : Value) : Acc → Prop
 | []=>True
 | (i,_,e) :: r=>(bif e.fr then v ≠ e.X.getD (x i) else True) ∧ bz3 x v r
def bo0 (x : Nat → Value) : Acc → Prop
 | []=>True
 | (i,_,e) :: r=>(bif e.fr then bz3 x (e.X.getD (x i)) r else True) ∧ bo0 x r
def obQ (w : World) (d : Option Tmp) (e : Ent) : G8:=fun ex ρ' w'=>ex = .normal ∧ Ext w w' ∧ ∃ t,d = some t ∧ e.p (ρ' t) w' ∧ (e.fr = true → ∀ g,ρ' t = .pointer (some ⟨g,0,none⟩) → w.heap.size ≤ g)
def Obs (P : Program) (n : Nat) (all : List Oper) (ρ : Fr) (w : World) (K : Acc → Prop) : Acc → Nat → List Oper → Prop
 | acc,_,[]=>K acc
 | acc,i,o :: r=>∃ e : Ent,(∀ x w',Ext w w' → bt3 x w' o.after.toList acc → WpR P n all (obQ w' o.dst e) [o] (frA ρ x acc) w') ∧ Obs P n all ρ w K ((i,o.dst,e) :: acc) (i + 1) r
def L9 (o : Oper) : List Tmp:=o.op.operands.toList.filterMap fun | .tmp t=>some t | _=>none
def by5 : List (Nat × Option Tmp) → Nat → List Oper → Bool
 | _,_,[]=>true
 | done,i,o :: r=>
  (match o.dst with | some d=>done.all (fun p=>p.2 != some d) | none=>false) &&
  (match o.op with | .select ..=>false | _=>true) &&
  o.after.toList.all (fun e=>!Region.binds .any e || Nat.blt e.on i) &&
  done.all (fun p=>E9 o.after.toList p.1 || match p.2 with | some d=>!(L9 o).contains d && (match o.guard with | some (g,_)=>g != p.1 | none=>true) | none=>true) &&
  (match o.guard with | some (g,_)=>Nat.blt g i | none=>true) &&
  (r.all fun o'=>match o.dst with | some d=>!(L9 o).contains d | none=>true) &&
  by5 ((i,o.dst) :: done) (i + 1) r
def a74 : List Oper → Bool
 | []=>true
 | o :: r=>(r.all fun o'=>match o'.dst with | some d=>!(L9 o).contains d | none=>true) && (match o.dst with | some d=>!(L9 o).contains d | none=>true) && a74 r
def B7 (n N : Nat) : Array Bool:=((List.range N).map fun i=>decide (i < n)).toArray
def ch5 (l : List Oper) (t : Nat) : Bool:=
 by5 [] 0 (l.take t) && a74 (l.take t) && Nat.blt t l.length && Region.sinkB .any l.toArray t && Region.chainB .any l.toArray t && Region.seqB .any l.toArray (l.length - t) t (B7 t l.length)
section
variable {P : Program} {n : Nat} {all : List Oper} {ρ : Fr} {w : World} {K : Acc → Prop}
abbrev fe6:=Nat × Option Tmp × Ent
def Ob (P : Program) (n : Nat) (all : List Oper) (ρ : Fr) (w : World) (o : Oper) (acc : Acc) (e : Ent) : Prop:=
 ∀ x w',Ext w w' → bt3 x w' o.after.toList acc → WpR P n all (obQ w' o.dst e) [o] (frA ρ x acc) w'
theorem c21 : ∀ (r : List Oper) (acc : Acc) (i : Nat),Obs P n all ρ w K acc i r →
  ∃ L : List fe6,L.length = r.length ∧ K (L.reverse ++ acc) ∧ ∀ k (hk : k < r.length),∃ e,L[k]? = some (i + k,r[k].dst,e) ∧ Ob P n all ρ w r[k] ((L.take k).reverse ++ acc) e:=by
 intro r
 induction r with
 | nil=>intro acc i h; exact ⟨[],rfl,h,fun k hk=>absurd hk (by simp)⟩
 | cons o r ih=>
  rintro acc i ⟨e,ho,hr⟩
  obtain ⟨L,hl,hK,hL⟩:=ih _ _ hr
  refine ⟨(i,o.dst,e) :: L,by simp [hl],by simpa using hK,fun k hk=>?_⟩
  cases k with
  | zero=>exact ⟨e,rfl,ho⟩
  | succ k=>
   obtain ⟨e',h1,h2⟩:=hL k (by simpa using hk)
   refine ⟨e',?_,?_⟩
   ·simp only [List.getElem?_cons_succ,h1,List.getElem_cons_succ]
    rw [show i + 1 + k = i + (k + 1) by omega]
   simpa using h2
theorem ao6 : ∀ {es : List Edge} {j : Nat},E9 es j = true → ∃ e ∈ es,Region.binds .any e = true ∧ e.on = j:=by
 intro es
 induction es with
 | nil=>intro j h; simp [E9] at h
 | cons e r ih=>
  intro j h
  simp only [E9] at h
  cases hb : (Nat.beq e.on j && Region.binds .any e) with
  | true=>
   simp only [Bool.and_eq_true] at hb
   exact ⟨e,List.mem_cons_self ..,hb.2,Nat.eq_of_beq_eq_true hb.1⟩
  | false=>
   rw [hb] at h
   obtain ⟨e',h1,h2⟩:=ih h
   exact ⟨e',List.mem_cons_of_mem _ h1,h2⟩
structure HOk (done : List (Nat × Option Tmp)) (i : Nat) (o : Oper) : Prop where
 dst : ∃ d,o.dst = some d ∧ ∀ p ∈ done,p.2 ≠ some d
 sel : ∀ cs b,o.op ≠ .select cs b
 low : ∀ e ∈ o.after,Region.binds .any e = true → e.on < i
 deps : ∀ p ∈ done,∀ d,p.2 = some d → E9 o.after.toList p.1 = true ∨ (d ∉ L9 o ∧ ∀ g b,o.guard = some (g,b) → g ≠ p.1)
 guard : ∀ g b,o.guard = some (g,b) → g < i
theorem b36 : ∀ (r : List Oper) (done : List (Nat × Option Tmp)) (i : Nat),by5 done i r = true → ∀ k (hk : k < r.length),
  HOk (((List.range k).map fun j=>(i + j,(r[j]?.bind (·.dst)))).reverse ++ done) (i + k) r[k]:=by
 intro r
 induction r with
 | nil=>intro done i h k hk; exact absurd hk (by simp)
 | cons o r ih=>
  intro done i h k hk
  simp only [by5,Bool.and_eq_true] at h
  obtain ⟨⟨⟨⟨⟨⟨h1,h2⟩,h3⟩,h4⟩,h5⟩,h6⟩,h7⟩:=h
  cases k with
  | zero=>
   simp only [List.range_zero,List.map_nil,List.reverse_nil,List.nil_append,Nat.add_zero,List.getElem_cons_zero]
   refine ⟨?_,?_,?_,?_,?_⟩
   ·cases hd : o.dst with
    | none=>rw [hd] at h1; cases h1
    | some d=>
     rw [hd] at h1
     refine ⟨d,rfl,fun p hp=>?_⟩
     have:=List.all_eq_true.1 h1 p hp
     simpa using this
   ·intro cs b e
    rw [e] at h2
    cases h2
   ·intro e he hb
    have:=List.all_eq_true.1 h3 e (Array.mem_toList_iff.2 he)
    simp only [hb,Bool.not_true,Bool.false_or] at this
    exact Nat.le_of_ble_eq_true this
   ·intro p hp d hd
    have:=List.all_eq_true.1 h4 p hp
    simp only [Bool.or_eq_true,hd,Bool.and_eq_true] at this
    rcases this with h | ⟨ha,hb⟩
    ·exact .inl h
    refine .inr ⟨by simpa using ha,fun g b hg=>?_⟩
    rw [hg] at hb
    simpa using hb
   intro g b hg
   rw [hg] at h5
   exact Nat.le_of_ble_eq_true h5
  | succ k=>
   have:=ih _ _ h7 k (by simpa using hk)
   have e1 : ((List.range (k + 1)).map fun j=>(i + j,((o :: r)[j]?.bind (·.dst)))).reverse ++ done = ((List.range k).map fun j=>(i + 1 + j,(r[j]?.bind (·.dst)))).reverse ++ ((i,o.dst) :: done):=by
    rw [List.range_succ_eq_map]
    simp only [List.map_cons,List.map_map,List.reverse_cons,List.append_assoc,List.cons_append,List.nil_append,List.getElem?_cons_zero,Option.bind_some,Nat.add_zero]
    congr 2
    refine List.map_congr_left fun j _=>?_
    simp only [Function.comp,List.getElem?_cons_succ]
    rw [show i + (j + 1) = i + 1 + j by omega]
   rw [e1,show i + (k + 1) = i + 1 + k by omega]
   simpa using this
theorem ar6 : ∀ (r : List Oper),a74 r = true → ∀ k j (hk : k < r.length) (hj : j < r.length),k ≤ j → ∀ d,r[j].dst = some d → d ∉ L9 r[k]:=by
 intro r
 induction r with
 | nil=>intro _ k j hk; exact absurd hk (by simp)
 | cons o r ih=>
  intro h k j hk hj hkj d hd
  simp only [a74,Bool.and_eq_true] at h
  cases k with
  | zero=>
   cases j with
   | zero=>
    simp only [List.getElem_cons_zero] at hd ⊢
    have:=h.1.2
    rw [hd] at this
    simpa using this
   | succ j=>
    simp only [List.getElem_cons_succ,List.getElem_cons_zero] at hd ⊢
    have:=List.all_eq_true.1 h.1.1 (r[j]'(by simpa using hj)) (List.getElem_mem _)
    rw [hd] at this
    simpa using this
  | succ k=>
   cases j with
   | zero=>omega
   | succ j=>
    simp only [List.getElem_cons_succ] at hd ⊢
    exact ih h.2 k j (by simpa using hk) (by simpa using hj) (by omega) d hd
def unl (listed : Array Bool) : Nat → Nat
 | 0=>0
 | k + 1=>unl listed k + (if listed.getD k false = true then 0 else 1)
theorem b00 (hi : i < listed.size) (h : listed.getD i false = false) : ∀ t,unl (listed.setIfInBounds i true) t = if i < t then unl listed t - 1 else unl listed t:=by
 intro t
 induction t with
 | zero=>rfl
 | succ t ih=>
  simp only [unl,ih]
  by_cases e : i = t
  ·subst e
   have h1 : (listed.setIfInBounds i true).getD i false = true:=by simp [hi]
   rw [h1,h]
   simp
  ·rw [getD_set_ne false e]
   have hle : ∀ u,i < u → 0 < unl listed u:=by
    intro u
    induction u with
    | zero=>intro h0; omega
    | succ u ihu=>
     intro hu
     simp only [unl]
     by_cases e2 : i = u
     ·subst e2; rw [h]; simp
     have:=ihu (by omega); omega
   by_cases hlt : i < t
   ·have:=hle t hlt
    simp only [if_pos hlt,if_pos (show i < t + 1 by omega)]
    omega
   simp only [if_neg hlt,if_neg (show ¬ i < t + 1 by omega)]
theorem a41 : ∀ {t : Nat},unl listed t = 0 → ∀ i,i < t → listed.getD i false = true:=by
 intro t
 induction t with
 | zero=>intro _ i hi; omega
 | succ t ih=>
  intro h i hi
  simp only [unl] at h
  by_cases e : i = t
  ·subst e
   by_cases hl : listed.getD i false = true
   ·exact hl
   rw [if_neg hl] at h; omega
  exact ih (by omega) i (by omega)
theorem bb8 : ∀ {t : Nat},unl listed t ≠ 0 → ∃ i,i < t ∧ listed.getD i false = false ∧ ∀ j,j < i → listed.getD j false = true:=by
 intro t
 induction t with
 | zero=>intro h; exact absurd rfl h
 | succ t ih=>
  intro h
  by_cases h0 : unl listed t = 0
  ·have hz:=a41 h0
   simp only [unl,h0] at h
   by_cases hl : listed.getD t false = true
   ·rw [if_pos hl] at h; omega
   exact ⟨t,by omega,by simpa using hl,hz⟩
  obtain ⟨i,h1,h2⟩:=ih h0
  exact ⟨i,by omega,h2⟩
theorem bw9 (N t : Nat) (h : t ≤ N) : unl (Array.replicate N false) t = t:=by
 induction t with
 | zero=>rfl
 | succ t ih=>simp only [unl,ih (by omega),getD_replicate_false]; simp
theorem by6 {x : Nat → Value} : ∀ {acc : Acc},(∀ p ∈ acc,p.2.1 ≠ some s) → frA ρ x acc s = ρ s:=by
 intro acc
 induction acc with
 | nil=>intro _; rfl
 | cons a r ih=>
  intro h
  obtain ⟨i,d,e⟩:=a
  have h1:=h _ (List.mem_cons_self ..)
  have h2:=ih fun p hp=>h p (List.mem_cons_of_mem _ hp)
  cases d with
  | none=>exact h2
  | some d=>
   show upd _ d _ s = _
   rw [Q6,h2]
   cases hb : Nat.beq s d with
   | false=>rfl
   | true=>exact absurd (congrArg some (Nat.eq_of_beq_eq_true hb).symm) h1
theorem da8 {x : Nat → Value} {e : Ent} : ∀ {acc : Acc},(i,some s,e) ∈ acc → (∀ p ∈ acc,p.2.1 = some s → p = (i,some s,e)) → frA ρ x acc s = e.X.getD (x i):=by
 intro acc
 induction acc with
 | nil=>intro h; cases h
 | cons a r ih=>
  intro h hu
  obtain ⟨j,d,e'⟩:=a
  by_cases hd : d = some s
  ·have:=hu _ (List.mem_cons_self ..) hd
   simp only [Prod.mk.injEq] at this
   obtain ⟨rfl,rfl,rfl⟩:=this
   exact A8 _ _ _
  have hm : (i,some s,e) ∈ r:=by
   rcases List.mem_cons.1 h with h | h
   ·simp only [Prod.mk.injEq] at h; exact absurd h.2.1.symm hd
   exact h
  have h2:=ih hm fun p hp=>hu p (List.mem_cons_of_mem _ hp)
  cases d with
  | none=>exact h2
  | some d=>
   show upd _ d _ s = _
   rw [Q6,h2]
   cases hb : Nat.beq s d with
   | false=>rfl
   | true=>exact absurd (congrArg some (Nat.eq_of_beq_eq_true hb).symm) hd
theorem c33 {x : Nat → Value} {es : List Edge} : ∀ {acc : Acc},(∀ p ∈ acc,E9 es p.1 = true → p.2.2.p (p.2.2.X.getD (x p.1)) w') → bt3 x w' es acc:=by
 intro acc
 induction acc with
 | nil=>intro _; trivial
 | cons a r ih=>
  intro h
  obtain ⟨i,d,e⟩:=a
  refine ⟨?_,ih fun p hp=>h p (List.mem_cons_of_mem _ hp)⟩
  cases hb : E9 es i with
  | false=>trivial
  | true=>exact h _ (List.mem_cons_self ..) hb
theorem dl9 {x : Nat → Value} : ∀ {acc : Acc},(∀ p ∈ acc,p.2.2.p (p.2.2.X.getD (x p.1)) w') → b40 x w' acc:=by
 intro acc
 induction acc with
 | nil=>intro _; trivial
 | cons a r ih=>
  intro h
  obtain ⟨i,d,e⟩:=a
  exact ⟨h _ (List.mem_cons_self ..),ih fun p hp=>h p (List.mem_cons_of_mem _ hp)⟩
theorem c93 {x : Nat → Value} : ∀ {acc : Acc},acc.Pairwise (fun p q=>p.2.2.fr = true → q.2.2.fr = true → p.2.2.X.getD (x p.1) ≠ q.2.2.X.getD (x q.1)) → bo0 x acc:=by
 have one : ∀ (v : Value) (r : Acc),(∀ q ∈ r,q.2.2.fr = true → v ≠ q.2.2.X.getD (x q.1)) → bz3 x v r:=by
  intro v r
  induction r with
  | nil=>intro _; trivial
  | cons a r ih=>
   obtain ⟨i,d,e⟩:=a
   intro h
   refine ⟨?_,ih fun q hq=>h q (List.mem_cons_of_mem _ hq)⟩
   cases he : e.fr with
   | false=>trivial
   | true=>exact h (i,d,e) (List.mem_cons_self ..) he
 intro acc
 induction acc with
 | nil=>intro _; trivial
 | cons a r ih=>
  obtain ⟨i,d,e⟩:=a
  intro h
  rw [List.pairwise_cons] at h
  refine ⟨?_,ih h.2⟩
  cases he : e.fr with
  | false=>trivial
  | true=>exact one _ _ fun q hq hq2=>h.1 q hq he hq2
theorem bu2 {a a2 : Act} {r : Result Next} {K K2 : Act → World → Prop} {Q2 : Exit → Act → World → Prop}
  (hK : ∀ v w,K2 (a2.put o.dst v) w → K (a.put o.dst v) w) (hd : ∀ d v w,¬ K2 ({ a2 with defers:=d :: a2.defers }.put o.dst v) w) (hp : ∀ c a w,¬ Q2 (.panic c) a w) (ho : ¬ LetsOut Q2)
  (h : o.upon P a2 K2 Q2 r) : o.upon P a K Q r:=by
 cases r with
 | ok x w=>
  cases x <;> simp only [Oper.upon] at h ⊢
  case value v=>exact hK _ _ h
  case skip=>exact hK _ _ h
  case defer d=>exact (hd _ _ _ h).elim
  case enter f args=>
   refine Calls.mono h fun e w' he=>?_
   cases e with
   | returned v=>exact hK _ _ he
   | panicked c=>exact (hp _ _ _ he).elim
   | outgrown=>exact (ho he).elim
  case row r args=>exact Rows.mono h fun v w' he=>hK _ _ he
 | halt x w=>
  cases x <;> simp only [Oper.upon] at h ⊢
  case panic v=>exact (hp _ _ _ h).elim
def P8 (n : Nat) (D : List Deferred) (F : Fr) : Act:={ tmps:=Array.ofFn (n:=n) fun i=>F i.val,defers:=D }
theorem b32 (h : ∀ i,n ≤ i → F i = undef) : Mt n D (P8 n D F) F:=by
 refine ⟨by simp [P8],rfl,fun i=>?_⟩
 by_cases hi : i < n
 ·simp [P8,Array.getD,hi]
 simp [P8,Array.getD,hi,h i (by omega)]
theorem d62 {all : List Oper} {e : Ent} {ρ' : Fr} {a : Act} {K : Act → World → Prop} {d : Nat}
  (hi : all[i]? = some o) (hdst : o.dst = some d) (hdn : Nat.blt d n = true) (hsel : ∀ cs b,o.op ≠ .select cs b) (hF : ∀ k,n ≤ k → F k = undef) (hm : Mt n D a ρ')
  (heq : ∀ s ∈ L9 o,F s = ρ' s) (hg : ∀ g b,o.guard = some (g,b) → ∀ s,H4 all g = some s → F s = ρ' s)
  (h : WpR P n all (obQ w' o.dst e) [o] F w') (hK : ∀ v w2,Ext w' w2 → e.p v w2 → (e.fr = true → ∀ g,v = .pointer (some ⟨g,0,none⟩) → w'.heap.size ≤ g) → K (a.put o.dst v) w2) : wpOp P all.toArray Q i K a w':=by
 have hm2:=b32 (D:=D) hF
 have hok : aa5 n o = true:=by unfold aa5; rw [hdst]; exact hdn
 unfold WpR at h
 have h2:=h (by simp [hok]) _ _ hm2
 have hev : execOp a.eval o = execOp (P8 n D F).eval o:=by
  refine execOp_congr o hsel fun x hx=>?_
  cases x with
  | tmp s=>
   show a.tmps.getD s undef = (P8 n D F).tmps.getD s undef
   rw [hm.get,hm2.get]
   refine (heq s ?_).symm
   exact List.mem_filterMap.2 ⟨.tmp s,Array.mem_toList_iff.2 hx,rfl⟩
  | _=>rfl
 have hw : Region.wanted o (yielded all.toArray a.tmps) = Region.wanted o (yielded all.toArray (P8 n D F).tmps):=by
  unfold Region.wanted
  cases hgd : o.guard with
  | none=>rfl
  | some gb=>
   obtain ⟨g,b⟩:=gb
   have hy : yielded all.toArray a.tmps g = yielded all.toArray (P8 n D F).tmps g:=by
    unfold yielded
    cases hs : H4 all g with
    | none=>
     have : ((all.toArray)[g]?).bind (·.dst) = none:=by simpa [H4] using hs
     rw [this]; rfl
    | some s=>
     have : ((all.toArray)[g]?).bind (·.dst) = some s:=by simpa [H4] using hs
     rw [this]
     have h3 : a.tmps.getD s undef = (P8 n D F).tmps.getD s undef:=by rw [hm.get,hm2.get]; exact (hg g b hgd s hs).symm
     have s1:=hm.size
     have s2:=hm2.size
     by_cases hlt : s < n
     ·have l1 : s < a.tmps.size:=by omega
      have l2 : s < (P8 n D F).tmps.size:=by omega
      simp only [Array.getD,l1,l2,dite_true] at h3
      have h4 : a.tmps[s] = (P8 n D F).tmps[s]:=h3
      simp only [Option.bind_some,Array.getElem?_eq_getElem l1,Array.getElem?_eq_getElem l2,h4]
     have l1 : a.tmps.size ≤ s:=by omega
     have l2 : (P8 n D F).tmps.size ≤ s:=by omega
     simp only [Option.bind_some,Array.getElem?_eq_none l1,Array.getElem?_eq_none l2]
   simp only [hy]
 have hpost : ∀ v w2,bo5 n D (obQ w' o.dst e) .normal ((P8 n D F).put o.dst v) w2 → Ext w' w2 ∧ e.p v w2 ∧ (e.fr = true → ∀ g,v = .pointer (some ⟨g,0,none⟩) → w'.heap.size ≤ g):=by
  rintro v w2 ⟨ρ2,hm3,_,hx,s,hs,hp⟩
  rw [hdst] at hs
  obtain rfl : d = s:=by simpa using hs
  have h3:=(hm2.put hdn v).get d
  rw [A8] at h3
  have h4:=hm3.get d
  rw [hdst,h3] at h4
  rw [h4]
  exact ⟨hx,hp⟩
 have hio : (all.toArray)[i]? = some o:=by simpa using hi
 have hnl : ¬ LetsOut (bo5 n D (obQ w' o.dst e)):=by
  rintro ⟨a0,w0,ρ0,_,h0,_⟩
  cases h0
 unfold wpOp
 simp only [hio,hw]
 unfold wpList at h2
 cases hwd : Region.wanted o (yielded all.toArray (P8 n D F).tmps) with
 | true=>
  simp only [hwd,if_true] at h2 ⊢
  rcases h2 with h2 | ⟨_,h2⟩
  ·left
   unfold Oper.wp at h2 ⊢
   rw [hev]
   refine bu2 (fun v w2 hk=>?_) (fun dd v w2 hk=>?_) (fun c a0 w0 hc=>?_) hnl h2
   ·obtain ⟨h5,h6,h7⟩:=hpost v w2 hk
    exact hK v w2 h5 h6 h7
   ·obtain ⟨ρ2,hm3,_⟩:=hk
    have:=hm3.defers
    have h9 : (P8 n D F).defers = D:=rfl
    cases hdd : o.dst <;> simp [hdd,Act.put,h9] at this
   obtain ⟨ρ0,_,h0,_⟩:=hc
   cases h0
  exact (hnl h2).elim
 | false=>
  simp only [hwd,Bool.false_eq_true,if_false] at h2 ⊢
  obtain ⟨h5,h6,h7⟩:=hpost undef w' h2
  exact hK undef w' h5 h6 h7
theorem c28 {Q : G8} (t : Nat) (hmo : P.follows .mixedOrders = true) (hchk : ch5 l t = true)
  (h : Obs P n l ρ w (fun acc=>∀ x w',Ext w w' → b40 x w' acc → bo0 x acc → WpR P n l Q (l.drop t) (frA ρ x acc) w') [] 0 (l.take t)) : Wp P n (.region id l.toArray true) Q ρ w:=by
 simp only [ch5,Bool.and_eq_true] at hchk
 obtain ⟨⟨⟨⟨⟨c1,c2⟩,c3⟩,c4⟩,c5⟩,c6⟩:=hchk
 have htl : t < l.length:=Nat.le_of_ble_eq_true c3
 have htk : (l.take t).length = t:=by rw [List.length_take]; omega
 obtain ⟨L,hL,hK,hO⟩:=c21 _ _ _ h
 rw [htk] at hL
 simp only [List.append_nil] at hK hO
 have hget : ∀ k (hk : k < t),(l.take t)[k]'(by omega) = l[k]:=fun k hk=>by simp
 have hHd0:=b36 _ _ _ c1
 have hHd : ∀ k (hk : k < t),HOk (((List.range k).map fun j=>(0 + j,((l.take t)[j]?.bind (·.dst)))).reverse ++ []) (0 + k) ((l.take t)[k]'(by omega)):=fun k hk=>hHd0 k (by omega)
 have hLt:=ar6 _ c2
 unfold Wp
 intro hc D act hmt
 simp only [O5,List.all_eq_true] at hc
 refine wp_region_any hmo ?_
 have hw1 : Ext w { w with drawn:=w.drawn + 1 }:=a44 w
 have hsz : l.toArray.size = t + (l.length - t):=by simp; omega
 have hund : ∀ i,n ≤ i → ρ i = undef:=fun i hi=>by rw [← hmt.get i]; simp [Array.getD,hmt.size]; omega
 have hds : ∀ k (hk : k < t),∃ d e,L[k]? = some (k,some d,e) ∧ l[k].dst = some d ∧ Nat.blt d n = true ∧ Ob P n l ρ w l[k] ((L.take k).reverse) e:=by
  intro k hk
  obtain ⟨e,h1,h2⟩:=hO k (by omega)
  rw [Nat.zero_add] at h1
  obtain ⟨⟨d,hd,_⟩,_⟩:=hHd k hk
  rw [hget k hk] at h1 h2 hd
  rw [hd] at h1
  refine ⟨d,e,by simpa using h1,hd,?_,h2⟩
  have:=hc l[k] (by simp)
  simpa [aa5,hd] using this
 have hapart : ∀ j k (hj : j < t) (hk : k < t) d,j < k → l[j].dst = some d → l[k].dst ≠ some d:=by
  intro j k hj hk d hjk hd hd2
  obtain ⟨⟨d',hd',hne⟩,_⟩:=hHd k hk
  rw [hget k hk,hd2] at hd'
  obtain rfl : d = d':=by simpa using hd'
  refine hne (0 + j,((l.take t)[j]?.bind (·.dst))) ?_ ?_
  ·refine List.mem_append_left _ (List.mem_reverse.2 (List.mem_map.2 ⟨j,List.mem_range.2 hjk,rfl⟩))
  rw [List.getElem?_eq_getElem (by omega)]
  simp only [Option.bind_some,hget j hj,hd]
 have huniq : ∀ j k (hj : j < t) (hk : k < t) d,l[j].dst = some d → l[k].dst = some d → j = k:=by
  intro j k hj hk d h1 h2
  rcases Nat.lt_trichotomy j k with h | h | h
  ·exact absurd h2 (hapart j k hj hk d h h1)
  ·exact h
  exact absurd h1 (hapart k j hk hj d h h2)
 have hmem : ∀ m,m ≤ t → ∀ p ∈ (L.take m).reverse,∃ k,∃ hk : k < t,k < m ∧ p.1 = k ∧ p.2.1 = l[k].dst ∧ L[k]? = some p:=by
  intro m hm p hp
  rw [List.mem_reverse] at hp
  obtain ⟨k,hk,hpk⟩:=List.mem_iff_getElem.1 hp
  simp only [List.length_take] at hk
  have hkt : k < t:=by omega
  have h1 : L[k]? = some p:=by
   rw [List.getElem_take] at hpk
   rw [← hpk]
   exact List.getElem?_eq_getElem (by omega)
  obtain ⟨d,e,h2,h3,_⟩:=hds k hkt
  have h4:=h1.symm.trans h2
  simp only [Option.some.injEq] at h4
  exact ⟨k,hkt,by omega,by rw [h4],by rw [h4,h3],h1⟩
 have hin : ∀ m,m ≤ t → ∀ k (hk : k < t),k < m → ∀ q,L[k]? = some q → q ∈ (L.take m).reverse:=by
  intro m hm k hk hkm q hq
  rw [List.mem_reverse]
  refine List.mem_of_getElem? (i:=k) ?_
  rw [List.getElem?_take,if_pos hkm]
  exact hq
 let Inv : Array Bool → Act → World → Prop:=fun listed a w'=>∃ ρ',Mt n D a ρ' ∧ Ext w w' ∧ (∀ s,(∀ k (hk : k < t),l[k].dst ≠ some s) → ρ' s = ρ s) ∧
  (∀ k,k < t → listed.getD k false = true → ∀ d e,L[k]? = some (k,some d,e) → e.p (ρ' d) w') ∧
  (∀ j k,j < t → k < t → j ≠ k → listed.getD j false = true → listed.getD k false = true → ∀ d e d' e',L[j]? = some (j,some d,e) → L[k]? = some (k,some d',e') → e.fr = true → e'.fr = true → ρ' d ≠ ρ' d')
 have fin : ∀ listed a w',HeadInv .any l.toArray t listed → unl listed t = 0 → Inv listed a w' → wpAny P .any l.toArray (bo5 n D Q) (l.length - t) listed a w':=by
  rintro listed a w' inv h0 ⟨ρ',hm',hx,hout,hp,hdst⟩
  have hz:=a41 h0
  have hcan : listed = B7 t l.length:=by
   refine Array.ext (by rw [inv.size]; simp [B7]) fun i h1 h2=>?_
   have hsz2:=inv.size
   have hil : i < l.length:=by simpa [hsz2] using h1
   by_cases hit : i < t
   ·have h3:=hz i hit
    simp only [Array.getD,h1,dite_true] at h3
    have h4 : listed[i] = true:=h3
    simp [B7,h4,hit]
   ·have h3:=inv.tail i (by omega) (by simpa using hil)
    simp only [Array.getD,h1,dite_true] at h3
    have h4 : listed[i] = false:=h3
    simp [B7,h4]
    omega
  have hall : ∀ k,k < t → ∀ d e,L[k]? = some (k,some d,e) → e.p (ρ' d) w':=fun k hk=>hp k hk (hz k hk)
  have hF : frA ρ (fun k=>match L[k]? with | some (_,some d,_)=>ρ' d | _=>undef) L.reverse = ρ':=by
   funext s
   by_cases hs : ∃ k,∃ hk : k < t,l[k].dst = some s
   ·obtain ⟨k,hk,hd⟩:=hs
    obtain ⟨d,e,h1,h2,_⟩:=hds k hk
    rw [hd] at h2
    obtain rfl : s = d:=by simpa using h2
    have hfull : L.take t = L:=List.take_of_length_le (by omega)
    have hi1:=hin t (Nat.le_refl _) k hk hk _ h1
    rw [hfull] at hi1
    rw [da8 hi1 ?_]
    ·simp only [h1]
     have:=hall k hk s e h1
     cases hX : e.X with
     | none=>rfl
     | some Y=>simp only [Option.getD_some]; exact (e.hX _ _ _ this hX).symm
    intro p hp' hps
    rw [← hfull] at hp'
    obtain ⟨j,hj,_,h3,h4,h5⟩:=hmem t (Nat.le_refl _) p hp'
    rw [hps] at h4
    have:=huniq j k hj hk s h4.symm hd
    subst this
    have:=h5.symm.trans h1
    simpa using this
   have hs' : ∀ k (hk : k < t),l[k].dst ≠ some s:=fun k hk hd=>hs ⟨k,hk,hd⟩
   rw [by6,hout s hs']
   intro p hp' hps
   have hfull : L.take t = L:=List.take_of_length_le (by omega)
   rw [← hfull] at hp'
   obtain ⟨j,hj,_,h3,h4,h5⟩:=hmem t (Nat.le_refl _) p hp'
   exact hs' j hj (by rw [← h4,hps])
  have hrun:=hK (fun k=>match L[k]? with | some (_,some d,_)=>ρ' d | _=>undef) w' hx (dl9 fun p hp'=>by
   have hfull : L.take t = L:=List.take_of_length_le (by omega)
   rw [← hfull] at hp'
   obtain ⟨j,hj,_,h3,h4,h5⟩:=hmem t (Nat.le_refl _) p hp'
   obtain ⟨d,e,h1,h2,_⟩:=hds j hj
   have h6:=h5.symm.trans h1
   simp only [Option.some.injEq] at h6
   subst h6
   simp only [h1]
   have h7:=hall j hj d e h1
   cases hX : e.X with
   | none=>exact h7
   | some Y=>exact e.hY _ _ hX) (c93 (by
   rw [List.pairwise_reverse,List.pairwise_iff_getElem]
   intro i j hi hj hij he1 he2
   obtain ⟨di,ei,h1,_⟩:=hds i (by omega)
   obtain ⟨dj,ej,h2,_⟩:=hds j (by omega)
   have g1:=List.getElem?_eq_getElem hi
   have g2:=List.getElem?_eq_getElem hj
   rw [h1] at g1
   rw [h2] at g2
   simp only [Option.some.injEq] at g1 g2
   rw [← g1] at he2
   rw [← g2] at he1
   rw [← g1,← g2]
   have hne:=hdst j i (by omega) (by omega) (by omega) (hz j (by omega)) (hz i (by omega)) dj ej di ei h2 h1 he1 he2
   have val : ∀ (k d : Nat) (e : Ent),k < t → L[k]? = some (k,some d,e) → e.X.getD ((fun k=>match L[k]? with | some (_,some d,_)=>ρ' d | _=>undef) k) = ρ' d:=by
    intro k d e hk hk2
    have h7:=hall k hk d e hk2
    cases hX : e.X with
    | none=>simp only [Option.getD_none,hk2]
    | some Y=>simp only [Option.getD_some]; exact (e.hX _ _ _ h7 hX).symm
   have v1:=val i di ei (by omega) h1
   have v2:=val j dj ej (by omega) h2
   intro e0
   exact hne (v2.symm.trans (e0.trans v1))))
  rw [hF] at hrun
  unfold WpR at hrun
  have hlen : (l.drop t).length = l.length - t:=by simp
  rw [← hlen]
  refine wpAny_of_seq (l.drop t) t listed a w' (fun j=>by simp) ?_ (hrun ?_ _ a hm')
  ·rw [hcan,hlen]; exact c6
  rw [List.all_eq_true]
  intro o ho
  exact hc o (by simpa using List.mem_of_mem_drop ho)
 have key : ∀ f listed a w',HeadInv .any l.toArray t listed → unl listed t = f → Inv listed a w' → wpAny P .any l.toArray (bo5 n D Q) (f + (l.length - t)) listed a w':=by
  intro f
  induction f with
  | zero=>intro listed a w' inv h0 hI; rw [Nat.zero_add]; exact fin listed a w' inv h0 hI
  | succ f ih=>
   intro listed a w' inv hf hI
   rw [show f + 1 + (l.length - t) = (f + (l.length - t)) + 1 by omega]
   obtain ⟨i0,hi0,hl0,hlow⟩:=bb8 (show unl listed t ≠ 0 by omega)
   have hsz2:=inv.size
   have hsz3 : listed.size = l.length:=by simpa using hsz2
   have hr0 : i0 ∈ Region.ready .any l.toArray listed:=by
    rw [mem_ready]
    refine ⟨getD_in (by omega) hl0,l[i0],by simp,fun e he hb=>hlow _ ?_⟩
    have:=(hHd i0 hi0).low e (by rw [hget i0 hi0]; exact he) hb
    omega
   refine ⟨fun he=>absurd (he ▸ hr0) (by simp),fun i hi=>?_⟩
   have hit : i < t:=by
    rcases Nat.lt_or_ge i t with h | h
    ·exact h
    exact absurd hi (tail_waits c4 c5 (by simpa using htl) inv _ i0 rfl hi0 (mem_ready.1 hr0).1 i h)
   obtain ⟨hun,oi,hoi,hdep⟩:=mem_ready.1 hi
   have hoi' : l[i] = oi:=by simpa [hit,show i < l.length by omega] using hoi
   obtain ⟨ρ',hm',hx,hout,hp,hdst⟩:=hI
   obtain ⟨d,e,h1,h2,h3,h4⟩:=hds i hit
   have hH:=hHd i hit
   rw [hget i hit] at hH
   let x : Nat → Value:=fun k=>match L[k]? with | some (_,some d,_)=>ρ' d | _=>undef
   have hdl : ∀ k,E9 l[i].after.toList k = true → listed.getD k false = true:=by
    intro k hk
    obtain ⟨ed,h5,h6,h7⟩:=ao6 hk
    rw [← h7]
    exact hdep ed (by rw [← hoi']; exact Array.mem_toList_iff.1 h5) h6
   have hdep2 : bt3 x w' l[i].after.toList ((L.take i).reverse):=c33 fun p hp' he=>by
    obtain ⟨j,hj,hji,h5,h6,h7⟩:=hmem i (by omega) p hp'
    obtain ⟨d',e',h8,h9,_⟩:=hds j hj
    have h10:=h7.symm.trans h8
    simp only [Option.some.injEq] at h10
    subst h10
    have h11:=hp j hj (hdl j he) d' e' h8
    cases hX : e'.X with
    | none=>simp only [x,h8,Option.getD_none]; exact h11
    | some Y=>exact e'.hY _ _ hX
   have hF : ∀ s,(∀ k (hk : k < t),l[k].dst = some s → k < i ∧ listed.getD k false = true) → frA ρ x ((L.take i).reverse) s = ρ' s:=by
    intro s hs
    by_cases hsx : ∃ k,∃ hk : k < t,l[k].dst = some s
    ·obtain ⟨k,hk,hd⟩:=hsx
     obtain ⟨hki,hkl⟩:=hs k hk hd
     obtain ⟨d',e',h8,h9,_⟩:=hds k hk
     rw [hd] at h9
     obtain rfl : s = d':=by simpa using h9
     rw [da8 (hin i (by omega) k hk hki _ h8) ?_]
     ·have h11:=hp k hk hkl s e' h8
      cases hX : e'.X with
      | none=>simp only [x,h8,Option.getD_none]
      | some Y=>simp only [Option.getD_some]; exact (e'.hX _ _ _ h11 hX).symm
     intro p hp' hps
     obtain ⟨j,hj,_,h5,h6,h7⟩:=hmem i (by omega) p hp'
     rw [hps] at h6
     have:=huniq j k hj hk s h6.symm hd
     subst this
     simpa using h7.symm.trans h8
    have hs' : ∀ k (hk : k < t),l[k].dst ≠ some s:=fun k hk hd=>hsx ⟨k,hk,hd⟩
    rw [by6,hout s hs']
    intro p hp' hps
    obtain ⟨j,hj,_,h5,h6,h7⟩:=hmem i (by omega) p hp'
    exact hs' j hj (by rw [← h6,hps])
   have hoil : l[i]? = some l[i]:=List.getElem?_eq_getElem (by omega)
   have hslot : ∀ k (hk : k < t) s,l[k].dst = some s → s ∈ L9 l[i] → k < i ∧ listed.getD k false = true:=by
    intro k hk s hks hso
    have hki : k < i:=by
     rcases Nat.lt_or_ge k i with h | h
     ·exact h
     have:=hLt i k (by omega) (by omega) h s (by rw [hget k hk]; exact hks)
     rw [hget i hit] at this
     exact absurd hso this
    have h5:=hH.deps (0 + k,((l.take t)[k]?.bind (·.dst))) (List.mem_append_left _ (List.mem_reverse.2 (List.mem_map.2 ⟨k,List.mem_range.2 hki,rfl⟩))) s (by
     rw [List.getElem?_eq_getElem (by omega)]
     simp only [Option.bind_some,hget k hk,hks])
    rcases h5 with h5 | h5
    ·exact ⟨hki,hdl k (by simpa using h5)⟩
    exact absurd hso h5.1
   refine d62 (o:=l[i]) (e:=e) (ρ':=ρ') (F:=frA ρ x ((L.take i).reverse)) hoil h2 h3 hH.sel ?_ hm' ?_ ?_ (h4 x w' hx hdep2) ?_
   ·intro k hk
    rw [by6,hund k hk]
    intro p hp' hps
    obtain ⟨j,hj,_,h5,h6,h7⟩:=hmem i (by omega) p hp'
    obtain ⟨d',e',h8,h9,h10,_⟩:=hds j hj
    rw [hps] at h6
    rw [← h6] at h9
    obtain rfl : k = d':=by simpa using h9
    have:=Nat.le_of_ble_eq_true h10
    omega
   ·intro s hs
    exact hF s fun k hk hks=>hslot k hk s hks hs
   ·intro g b hgd s hs
    refine hF s fun k hk hks=>?_
    have hgi:=hH.guard g b hgd
    have hgt : g < t:=by omega
    have hgs : l[g].dst = some s:=by
     unfold H4 at hs
     rw [List.getElem?_eq_getElem (by omega)] at hs
     simpa using hs
    obtain rfl:=huniq k g hk hgt s hks hgs
    have h5:=hH.deps (0 + k,((l.take t)[k]?.bind (·.dst))) (List.mem_append_left _ (List.mem_reverse.2 (List.mem_map.2 ⟨k,List.mem_range.2 (by omega),rfl⟩))) s (by
     rw [List.getElem?_eq_getElem (by omega)]
     simp only [Option.bind_some,hget k hk,hks])
    rcases h5 with h5 | h5
    ·exact ⟨by omega,hdl k (by simpa using h5)⟩
    exact absurd (by omega) (h5.2 k b hgd)
   ·intro v w2 hx2 hev hfv
    refine ih _ _ _ (inv.set hi hit) ?_ ⟨upd ρ' d v,?_,hx.trans hx2,?_,?_,?_⟩
    ·rw [b00 (by omega) (getD_both hun),if_pos hit]; omega
    ·rw [h2]; exact hm'.put h3 v
    ·intro s hs
     rw [Q6,hout s hs]
     cases hb : Nat.beq s d with
     | false=>rfl
     | true=>exact absurd (by rw [Nat.eq_of_beq_eq_true hb]; exact h2) (hs i hit)
    ·intro k hk hkl d' e' h8
     obtain ⟨d2,e2,h9,h10,_⟩:=hds k hk
     have h11:=h8.symm.trans h9
     simp only [Option.some.injEq,Prod.mk.injEq,true_and] at h11
     obtain ⟨rfl,rfl⟩:=h11
     by_cases hki : i = k
     ·subst hki
      have h12:=h8.symm.trans h1
      simp only [Option.some.injEq,Prod.mk.injEq,true_and] at h12
      obtain ⟨rfl,rfl⟩:=h12
      rw [A8]
      exact hev
     rw [getD_set_ne false hki] at hkl
     have hne : Nat.beq d' d = false:=by
      cases hb : Nat.beq d' d with
      | false=>rfl
      | true=>
       have:=Nat.eq_of_beq_eq_true hb
       subst this
       exact absurd (huniq k i hk hit d' h10 h2) (fun e=>hki e.symm)
     rw [Q6 hne]
     exact e'.keep _ _ _ (hp k hk hkl d' e' h8) hx2
    ·have slotd : ∀ k d' e',k < t → L[k]? = some (k,some d',e') → k ≠ i → Nat.beq d' d = false:=by
      intro k d' e' hk h8 hki
      obtain ⟨d2,e2,h9,h10,_⟩:=hds k hk
      have h11:=h8.symm.trans h9
      simp only [Option.some.injEq,Prod.mk.injEq,true_and] at h11
      obtain ⟨rfl,rfl⟩:=h11
      cases hb : Nat.beq d' d with
      | false=>rfl
      | true=>
       have:=Nat.eq_of_beq_eq_true hb
       subst this
       exact absurd (huniq k i hk hit d' h10 h2) hki
     intro j k hj hk hjk hjl hkl dj ej dk ek h8 h9 hf1 hf2
     by_cases hji : j = i
     ·subst hji
      have h12:=h8.symm.trans h1
      simp only [Option.some.injEq,Prod.mk.injEq,true_and] at h12
      obtain ⟨rfl,rfl⟩:=h12
      rw [A8,Q6 (slotd k dk ek hk h9 (fun x=>hjk x.symm))]
      rw [getD_set_ne false hjk] at hkl
      intro hne
      obtain ⟨g,hg1,hg2⟩:=ek.hfr hf2 _ _ (hp k hk hkl dk ek h9)
      rw [hg1] at hne
      have:=hfv hf1 g hne
      omega
     by_cases hki : k = i
     ·subst hki
      have h12:=h9.symm.trans h1
      simp only [Option.some.injEq,Prod.mk.injEq,true_and] at h12
      obtain ⟨rfl,rfl⟩:=h12
      rw [A8,Q6 (slotd j dj ej hj h8 hji)]
      rw [getD_set_ne false (fun x=>hji x.symm)] at hjl
      intro hne
      obtain ⟨g,hg1,hg2⟩:=ej.hfr hf1 _ _ (hp j hj hjl dj ej h8)
      rw [hg1] at hne
      have:=hfv hf2 g hne.symm
      omega
     rw [Q6 (slotd j dj ej hj h8 hji),Q6 (slotd k dk ek hk h9 hki)]
     rw [getD_set_ne false (fun x=>hji x.symm)] at hjl
     rw [getD_set_ne false (fun x=>hki x.symm)] at hkl
     exact hdst j k hj hk hjk hjl hkl dj ej dk ek h8 h9 hf1 hf2
 have hs:=key t (Array.replicate l.toArray.size false) act { w with drawn:=w.drawn + 1 }
  ⟨by simp,fun j oj _ hl=>(by rw [getD_replicate_false] at hl; cases hl),fun k _ hk=>getD_in (by simpa using hk) (getD_replicate_false _ _)⟩
  (bw9 _ _ (by simp; omega)) ⟨ρ,hmt,hw1,fun _ _=>rfl,fun k _ hk=>(by rw [getD_replicate_false] at hk; cases hk),fun j k _ _ _ hj=>(by rw [getD_replicate_false] at hj; cases hj)⟩
 rwa [← hsz] at hs
theorem s7 {Q : G8} (t : Nat) (h : Obs P n l ρ w (fun acc=>∀ x w',Ext w w' → b40 x w' acc → bo0 x acc → WpR P n l Q (l.drop t) (frA ρ x acc) w') [] 0 (l.take t)) (hmo : P.follows .mixedOrders = true:=by kernel_rfl) (hchk : ch5 l t = true:=by kernel_rfl) : Wp P n (.region id l.toArray true) Q ρ w:=
 c28 t hmo hchk h
section
variable {P : Program} {n : Nat} {all r : List Oper} {ρ : Fr} {w : World} {K : Acc → Prop} {acc : Acc} {i : Nat} {o : Oper}
theorem a7 {e : Ent} (h1 : ∀ x w',Ext w w' → bt3 x w' o.after.toList acc → WpR P n all (obQ w' o.dst e) [o] (frA ρ x acc) w')
  (h2 : Obs P n all ρ w K ((i,o.dst,e) :: acc) (i + 1) r) : Obs P n all ρ w K acc i (o :: r):=⟨e,h1,h2⟩
theorem F5 (h : K acc) : Obs P n all ρ w K acc i []:=h
theorem i6 {d : Nat} : obQ w (some d) (Ent.eq v) .normal (upd F d v) w:=⟨rfl,.refl,d,rfl,A8 _ _ _,fun h=>by cases h⟩
theorem y7 {d : Nat} {p : Value → World → Prop} {h : ∀ v w w',p v w → Ext w w' → p v w'} (hx : Ext w w') (hp : p v w') :
  obQ w (some d) (Ent.of p h) .normal (upd F d v) w':=⟨rfl,hx,d,rfl,by show p _ _; rw [A8]; exact hp,fun h=>by cases h⟩
theorem de0 {d : Nat} (hx : Ext w w') (hb : Blk w' g T cs) (hg : w.heap.size ≤ g) (hbg : b ≤ w.heap.size) :
  obQ w (some d) (Ent.new b T cs) .normal (upd F d (.pointer (some ⟨g,0,none⟩))) w':=
 ⟨rfl,hx,d,rfl,⟨g,A8 _ _ _,hb,by omega⟩,fun _ g' h=>by rw [A8] at h; simp only [Value.pointer.injEq,Option.some.injEq,Addr.mk.injEq] at h; omega⟩
theorem G7 {Q : G8} (h : ∀ x w',Ext w w' → b40 x w' acc → WpR P n l Q r (frA ρ x acc) w') : ∀ x w',Ext w w' → b40 x w' acc → bo0 x acc → WpR P n l Q r (frA ρ x acc) w':=fun x w' a b _=>h x w' a b
theorem ds3 {Q : G8} (h : ∀ x w',Ext w w' → b40 x w' acc → bo0 x acc → WpR P n l Q r (frA ρ x acc) w') : ∀ x w',Ext w w' → b40 x w' acc → bo0 x acc → WpR P n l Q r (frA ρ x acc) w':=h
end
end
end Go.Proofs.YtmkhgjccoolfjaaGreatDoor
end
namespace Go.Proofs.YtmkhgjccoolfjaaGreatDoor
variable {r a b l : List Nat} {n k j i : Nat} {x : Int}
def r9 : List Nat → Nat
 | []=>0
 | d :: r=>d + 1000000000 * r9 r
def Digs (l : List Nat) : Prop:=∀ d ∈ l,d < 1000000000
def a66 (l : List Nat) : Prop:=Digs l ∧ ∀ h : l ≠ [],l.getLast h ≠ 0
theorem Y5 (a b : List Nat) : r9 (a ++ b) = r9 a + 1000000000 ^ a.length * r9 b:=by
 induction a with
 | nil=>simp [r9]
 | cons d r ih=>
  simp only [List.cons_append,r9,ih,List.length_cons,Nat.pow_succ]
  rw [Nat.mul_add,← Nat.mul_assoc,Nat.mul_comm 1000000000 (1000000000 ^ r.length),Nat.add_assoc]
theorem Digs.tail {d : Nat} (h : Digs (d :: r)) : Digs r:=fun x hx=>h x (List.mem_cons_of_mem _ hx)
theorem Digs.head {d : Nat} (h : Digs (d :: r)) : d < 1000000000:=h d (List.mem_cons_self ..)
theorem Digs.append (h : Digs a) (k : Digs b) : Digs (a ++ b):=fun x hx=>(List.mem_append.1 hx).elim (h x) (k x)
theorem Digs.take (h : Digs l) (k : Nat) : Digs (l.take k):=fun x hx=>h x (List.mem_of_mem_take hx)
theorem V0 : Digs []:=fun _ h=>by cases h
theorem Digs.cons {d : Nat} (hd : d < 1000000000) (h : Digs r) : Digs (d :: r):=fun x hx=>by
 rcases List.mem_cons.1 hx with rfl | hx
 ·exact hd
 exact h x hx
theorem av0 (h : Digs l) : r9 l < 1000000000 ^ l.length:=by
 induction l with
 | nil=>simp [r9]
 | cons d r ih=>
  have h1:=ih h.tail
  have h2:=h.head
  simp only [r9,List.length_cons,Nat.pow_succ]
  omega
theorem a09 (k : Nat) : r9 (List.replicate k 0) = 0:=by
 induction k with
 | zero=>rfl
 | succ k ih=>simp [List.replicate_succ,r9,ih]
def dgF : Nat → Nat → List Nat
 | 0,_=>[]
 | f + 1,n=>if n = 0 then [] else n % 1000000000 :: dgF f (n / 1000000000)
def dg (n : Nat) : List Nat:=dgF n n
theorem ck9 : ∀ (f g n : Nat),n ≤ f → n ≤ g → dgF f n = dgF g n:=by
 intro f
 induction f with
 | zero=>
  intro g n h _
  obtain rfl : n = 0:=by omega
  cases g <;> simp [dgF]
 | succ f ih=>
  intro g n h1 h2
  cases g with
  | zero=>
   obtain rfl : n = 0:=by omega
   simp [dgF]
  | succ g=>
   simp only [dgF]
   split
   ·rfl
   rw [ih g _ (by omega) (by omega)]
theorem ak1 : dg 0 = []:=rfl
theorem al9 (h : n ≠ 0) : dg n = n % 1000000000 :: dg (n / 1000000000):=by
 obtain ⟨m,rfl⟩ : ∃ m,n = m + 1:=⟨n - 1,by omega⟩
 show dgF (m + 1) (m + 1) = _
 simp only [dgF,if_neg h]
 rw [ck9 m ((m + 1) / 1000000000) _ (by omega) (Nat.le_refl _)]
 rfl
theorem x8 (n : Nat) : r9 (dg n) = n:=by
 induction n using Nat.strongRecOn with
 | _ n ih=>
  by_cases h : n = 0
  ·subst h; rfl
  rw [al9 h,r9,ih _ (by omega)]
  omega
theorem a35 (n : Nat) : Digs (dg n):=by
 induction n using Nat.strongRecOn with
 | _ n ih=>
  by_cases h : n = 0
  ·subst h; exact V0
  rw [al9 h]
  exact Digs.cons (by omega) (ih _ (by omega))
theorem dm7 {d : Nat} (hd : d < 1000000000) (h : d ≠ 0 ∨ n ≠ 0) : dg (d + 1000000000 * n) = d :: dg n:=by
 rw [al9 (by omega)]
 congr 1
 ·omega
 congr 1
 omega
theorem bd6 (h : a66 l) : dg (r9 l) = l:=by
 induction l with
 | nil=>rfl
 | cons d r ih=>
  have hr : a66 r:=⟨h.1.tail,fun hne=>by have:=h.2 (by simp); rwa [List.getLast_cons hne] at this⟩
  have h1:=ih hr
  rw [r9,dm7 h.1.head,h1]
  by_cases hn : r = []
  ·subst hn
   left
   exact h.2 (by simp)
  right
  intro e
  rw [e] at h1
  exact hn h1.symm
theorem ah3 (n : Nat) : a66 (dg n):=by
 refine ⟨a35 n,?_⟩
 induction n using Nat.strongRecOn with
 | _ n ih=>
  intro hne
  by_cases h : n = 0
  ·subst h; exact absurd rfl hne
  have h1:=al9 h
  by_cases hq : n / 1000000000 = 0
  ·have h2 : dg n = [n]:=by rw [h1,hq,ak1,Nat.mod_eq_of_lt (by omega)]
   simp only [h2,List.getLast_singleton]
   exact h
  have hne' : dg (n / 1000000000) ≠ []:=by rw [al9 hq]; simp
  have h3:=ih _ (by omega) hne'
  simp only [h1,List.getLast_cons hne']
  exact h3
def dl (n : Nat) : Nat:=(dg n).length
theorem dq7 : dl 0 = 0:=rfl
theorem A6 (n : Nat) : n < 1000000000 ^ dl n:=by
 have:=av0 (a35 n)
 rwa [x8] at this
theorem G9 (h : n < 1000000000 ^ k) : dl n ≤ k := by
  induction k generalizing n with
  | zero => obtain rfl : n = 0 := by simpa using h
            simp [dl, ak1]
  | succ k ih =>
    by_cases h0 : n = 0
    · subst h0; simp [dl, ak1]
    · have h1 : dl n = dl (n / 1000000000) + 1 := by unfold dl; rw [al9 h0]; rfl
      have h2 := ih (n := n / 1000000000) (by rw [Nat.pow_succ] at h; omega)
      omega
theorem I6 {a b : Nat} (h : a ≤ b) : dl a ≤ dl b:=G9 (Nat.lt_of_le_of_lt h (A6 b))
theorem al1 (a b : Nat) : dl (a * b) ≤ dl a + dl b:=by
 refine G9 ?_
 rw [Nat.pow_add]
 exact Nat.mul_lt_mul'' (A6 a) (A6 b)
theorem d61 (a b : Nat) : dl (a + b) ≤ max (dl a) (dl b) + 1:=by
 refine G9 ?_
 have h1:=A6 a
 have h2:=A6 b
 have h3 : 1000000000 ^ dl a ≤ 1000000000 ^ max (dl a) (dl b):=Nat.pow_le_pow_right (by omega) (Nat.le_max_left ..)
 have h4 : 1000000000 ^ dl b ≤ 1000000000 ^ max (dl a) (dl b):=Nat.pow_le_pow_right (by omega) (Nat.le_max_right ..)
 rw [Nat.pow_succ]
 omega
theorem bx8 (h : n ≠ 0) : 0 < dl n:=by unfold dl; rw [al9 h]; simp
theorem J3 {n : Nat} : dl n = 0 ↔ n = 0:=by
 constructor
 ·intro h
  by_cases h0 : n = 0
  ·exact h0
  have:=bx8 h0; omega
 rintro rfl; rfl
theorem X4 (h : a66 l) (hne : l ≠ []) : 1000000000 ^ (l.length - 1) ≤ r9 l:=by
 induction l with
 | nil=>exact absurd rfl hne
 | cons d r ih=>
  by_cases hr : r = []
  ·subst hr
   have:=h.2 (by simp)
   simp [r9] at this ⊢
   omega
  have hc : a66 r:=⟨h.1.tail,fun hn=>by have:=h.2 (by simp); rwa [List.getLast_cons hn] at this⟩
  have h1:=ih hc hr
  have h2 : 0 < r.length:=List.length_pos_iff.2 hr
  simp only [List.length_cons,r9]
  obtain ⟨k,hk⟩ : ∃ k,r.length = k + 1:=⟨r.length - 1,by omega⟩
  rw [hk] at h1 ⊢
  simp only [Nat.add_sub_cancel,Nat.pow_succ] at h1 ⊢
  omega
theorem a00 (hd : Digs l) (hj : j ≤ l.length) (hz : ∀ i,j ≤ i → i < l.length → l.getD i 0 = 0) (hl : j = 0 ∨ l.getD (j - 1) 0 ≠ 0) :
  l.take j = dg (r9 l):=by
 have h1 : r9 (l.drop j) = 0:=by
  have h2 : l.drop j = List.replicate (l.length - j) 0:=by
   refine List.eq_replicate_iff.2 ⟨by simp,fun x hx=>?_⟩
   obtain ⟨i,hi,rfl⟩:=List.mem_iff_getElem.1 hx
   simp at hi
   have h3:=hz (j + i) (by omega) (by omega)
   simp [List.getD_eq_getElem?_getD,List.getElem?_eq_getElem (show j + i < l.length by omega)] at h3
   simpa using h3
  rw [h2,a09]
 have h2 : r9 l = r9 (l.take j):=by
  conv=>lhs; rw [← List.take_append_drop j l]
  rw [Y5,h1]
  omega
 rw [h2,bd6]
 refine ⟨hd.take j,fun hne=>?_⟩
 have hj0 : 0 < j:=by
  rcases Nat.eq_zero_or_pos j with e | e
  ·subst e; simp at hne
  exact e
 rcases hl with hl | hl
 ·omega
 rw [List.getLast_eq_getElem]
 simp only [List.length_take,List.getElem_take]
 have e : min j l.length - 1 = j - 1:=by omega
 simp only [e]
 simpa [List.getD_eq_getElem?_getD,List.getElem?_eq_getElem (show j - 1 < l.length by omega)] using hl
theorem b90 (l : List Nat) (hk : k < l.length) : r9 l = r9 (l.take k) + 1000000000 ^ k * (l.getD k 0 + 1000000000 * r9 (l.drop (k + 1))):=by
 have h1 : l = l.take k ++ (l.getD k 0 :: l.drop (k + 1)):=by
  have : l.getD k 0 = l[k]:=by simp [List.getD_eq_getElem?_getD,List.getElem?_eq_getElem hk]
  rw [this,List.getElem_cons_drop,List.take_append_drop]
 conv=>lhs; rw [h1]
 rw [Y5,r9,List.length_take,Nat.min_eq_left (by omega)]
theorem aq2 (ha : Digs a) (hka : k < a.length) (hkb : k < b.length) (hd : a.drop (k + 1) = b.drop (k + 1)) (hlt : a.getD k 0 < b.getD k 0) : r9 a < r9 b:=by
 rw [b90 a hka,b90 b hkb,hd]
 have h1:=av0 (ha.take k)
 rw [List.length_take,Nat.min_eq_left (by omega)] at h1
 have h2 : 1000000000 ^ k * (a.getD k 0 + 1000000000 * r9 (b.drop (k + 1))) + 1000000000 ^ k ≤ 1000000000 ^ k * (b.getD k 0 + 1000000000 * r9 (b.drop (k + 1))):=by
  rw [← Nat.mul_succ]
  exact Nat.mul_le_mul_left _ (by omega)
 omega
theorem ai7 (ha : a66 a) (hb : a66 b) (h : a.length < b.length) : r9 a < r9 b:=by
 have h1:=av0 ha.1
 have h2:=X4 hb (by intro e; subst e; simp at h)
 have h3 : 1000000000 ^ a.length ≤ 1000000000 ^ (b.length - 1):=Nat.pow_le_pow_right (by omega) (by omega)
 omega
theorem a55 (hka : k < a.length) (hkb : k < b.length) (hd : a.drop (k + 1) = b.drop (k + 1)) (h : a.getD k 0 = b.getD k 0) : a.drop k = b.drop k:=by
 have h1 : a.getD k 0 = a[k]:=by simp [List.getD_eq_getElem?_getD,List.getElem?_eq_getElem hka]
 have h2 : b.getD k 0 = b[k]:=by simp [List.getD_eq_getElem?_getD,List.getElem?_eq_getElem hkb]
 rw [← List.getElem_cons_drop hka,← List.getElem_cons_drop hkb,hd,← h1,← h2,h]
def du8 (c : Int) (a b : Nat) : Prop:=(c < 0 ↔ a < b) ∧ (0 < c ↔ b < a)
theorem Digs.getD (h : Digs l) (m : Nat) : l.getD m 0 < 1000000000:=by
 rw [List.getD_eq_getElem?_getD]
 cases hm : l[m]? with
 | none=>simp
 | some d=>exact h d (List.mem_of_getElem? hm)
theorem K7 (n m : Nat) : (dg n).getD m 0 < 1000000000:=(a35 n).getD m
def an5 (x : Nat → Int) : Nat → Int
 | 0=>0
 | n + 1=>an5 x n + 1000000000 ^ n * x n
theorem c13 (x y : Nat → Int) (n : Nat) : an5 (fun i=>x i + y i) n = an5 x n + an5 y n:=by
 induction n with
 | zero=>rfl
 | succ n ih=>simp only [an5,ih,Int.mul_add]; omega
theorem df4 (x y : Nat → Int) (n : Nat) : an5 (fun i=>x i - y i) n = an5 x n - an5 y n:=by
 induction n with
 | zero=>rfl
 | succ n ih=>simp only [an5,ih,Int.mul_sub]; omega
theorem c76 (x : Nat → Int) (c : Int) (n : Nat) : an5 (fun i=>x i * c) n = an5 x n * c:=by
 induction n with
 | zero=>simp [an5]
 | succ n ih=>simp only [an5,ih,Int.add_mul,Int.mul_assoc]
theorem cw6 (l : List Nat) : ∀ n,an5 (fun i=>(l.getD i 0 : Int)) n = (r9 (l.take n) : Int):=by
 intro n
 induction n with
 | zero=>rfl
 | succ n ih=>
  simp only [an5,ih]
  by_cases h : n < l.length
  ·rw [List.take_succ_eq_append_getElem h,Y5,List.length_take,Nat.min_eq_left (by omega)]
   have : l.getD n 0 = l[n]:=by simp [List.getD_eq_getElem?_getD,List.getElem?_eq_getElem h]
   rw [this]
   simp only [r9,Nat.mul_zero,Nat.add_zero,Int.natCast_add,Int.natCast_mul,Int.natCast_pow]
   rfl
  rw [List.take_of_length_le (by omega),List.take_of_length_le (by omega)]
  simp [List.getD_eq_getElem?_getD,List.getElem?_eq_none (show l.length ≤ n by omega)]
theorem a69 {a : Nat} (h : dl a ≤ n) : an5 (fun i=>((dg a).getD i 0 : Int)) n = a:=by
 rw [cw6,List.take_of_length_le h,x8]
theorem bu1 (h : x.tmod 1000000000 < 0) : x.tmod 1000000000 + 1000000000 = x % 1000000000 ∧ x.tdiv 1000000000 - 1 = x / 1000000000:=by
 rcases Int.le_total 0 x with h0 | h0
 ·rw [Int.tmod_eq_emod_of_nonneg h0] at h; omega
 obtain ⟨y,rfl⟩ : ∃ y : Int,x = -y:=⟨-x,by omega⟩
 rw [Int.neg_tmod,Int.tmod_eq_emod_of_nonneg (by omega)] at h ⊢
 rw [Int.neg_tdiv,Int.tdiv_eq_ediv_of_nonneg (by omega)]
 omega
theorem bt9 (h : ¬ x.tmod 1000000000 < 0) : x.tmod 1000000000 = x % 1000000000 ∧ x.tdiv 1000000000 = x / 1000000000:=by
 rcases Int.le_total 0 x with h0 | h0
 ·rw [Int.tmod_eq_emod_of_nonneg h0,Int.tdiv_eq_ediv_of_nonneg h0]; exact ⟨rfl,rfl⟩
 obtain ⟨y,rfl⟩ : ∃ y : Int,x = -y:=⟨-x,by omega⟩
 rw [Int.neg_tmod,Int.tmod_eq_emod_of_nonneg (by omega)] at h ⊢
 rw [Int.neg_tdiv,Int.tdiv_eq_ediv_of_nonneg (by omega)]
 omega
theorem ck4 {v : Nat} {p : Int} {c : Int} (h : (v : Int) + 1000000000 ^ i * c = p) :
  ((v + 1000000000 ^ i * ((c + x) % 1000000000).toNat : Nat) : Int) + 1000000000 ^ (i + 1) * ((c + x) / 1000000000) = p + 1000000000 ^ i * x:=by
 have h1 : ((c + x) % 1000000000).toNat = (c + x) % 1000000000:=Int.toNat_of_nonneg (by omega)
 have h2 : (c + x) % 1000000000 + 1000000000 * ((c + x) / 1000000000) = c + x:=by omega
 have h3 : (1000000000 : Int) ^ i * ((c + x) % 1000000000) + 1000000000 ^ i * (1000000000 * ((c + x) / 1000000000)) = 1000000000 ^ i * c + 1000000000 ^ i * x:=by
  rw [← Int.mul_add,h2,Int.mul_add]
 rw [Int.natCast_add,Int.natCast_mul,h1,Int.natCast_pow,Int.pow_succ,Int.mul_assoc]
 have h4 : ((1000000000 : Nat) : Int) = 1000000000:=rfl
 rw [h4]
 omega
theorem b66 (l : List Nat) (d : Nat) : ∀ {k : Nat},k < l.length → r9 (l.set k d) + 1000000000 ^ k * l.getD k 0 = r9 l + 1000000000 ^ k * d:=by
 induction l with
 | nil=>intro k hk; simp at hk
 | cons c r ih=>
  intro k hk
  cases k with
  | zero=>simp [r9]; omega
  | succ k=>
   have:=ih (k:=k) (by simpa using hk)
   simp only [List.set_cons_succ,r9,List.getD_cons_succ,Nat.pow_succ]
   have e1 : 1000000000 ^ k * 1000000000 * r.getD k 0 = 1000000000 * (1000000000 ^ k * r.getD k 0):=by rw [Nat.mul_comm (1000000000 ^ k),Nat.mul_assoc]
   have e2 : 1000000000 ^ k * 1000000000 * d = 1000000000 * (1000000000 ^ k * d):=by rw [Nat.mul_comm (1000000000 ^ k),Nat.mul_assoc]
   rw [e1,e2]
   omega
theorem Digs.set (h : Digs l) {d : Nat} (hd : d < 1000000000) (k : Nat) : Digs (l.set k d):=fun x hx=>by
 rcases List.mem_or_eq_of_mem_set hx with h1 | h1
 ·exact h x h1
 omega
theorem ac5 {d : Nat} (h : k < l.length) : (l.set k d).getD k 0 = d:=by simp [List.getD_eq_getElem?_getD,h]
theorem S9 {d : Nat} (h : j ≠ k) : (l.set k d).getD j 0 = l.getD j 0:=by simp [List.getD_eq_getElem?_getD,List.getElem?_set_ne (Ne.symm h)]
theorem cb4 {o : List Nat} {c m p : Nat} (hk : k < o.length) (h : r9 o + 1000000000 ^ k * c = p) :
  r9 (o.set k ((m + o.getD k 0 + c) % 1000000000)) + 1000000000 ^ (k + 1) * ((m + o.getD k 0 + c) / 1000000000) = p + 1000000000 ^ k * m:=by
 have h1:=b66 o ((m + o.getD k 0 + c) % 1000000000) hk
 have h2 : (m + o.getD k 0 + c) % 1000000000 + 1000000000 * ((m + o.getD k 0 + c) / 1000000000) = m + o.getD k 0 + c:=by omega
 have h3 : 1000000000 ^ k * ((m + o.getD k 0 + c) % 1000000000) + 1000000000 ^ k * (1000000000 * ((m + o.getD k 0 + c) / 1000000000)) = 1000000000 ^ k * m + 1000000000 ^ k * o.getD k 0 + 1000000000 ^ k * c:=by
  rw [← Nat.mul_add,h2,Nat.mul_add,Nat.mul_add]
 rw [Nat.pow_succ,Nat.mul_assoc]
 omega
theorem ag3 (h : i < l.length) : r9 (l.take (i + 1)) = r9 (l.take i) + 1000000000 ^ i * l.getD i 0:=by
 rw [List.take_succ_eq_append_getElem h,Y5,List.length_take,Nat.min_eq_left (by omega)]
 simp [r9,List.getD_eq_getElem?_getD,List.getElem?_eq_getElem h]
end Go.Proofs.YtmkhgjccoolfjaaGreatDoor
section
namespace Go.Proofs.YtmkhgjccoolfjaaGreatDoor
open Go Go.RowKit Tryz
variable {k kd : IntKind} {l : List Nat} {t T ty t2 : TypeId} {b m i g c a n tot ga gb s bb : Nat} {z v va vb z0 z1 : Value} {agg : Bool} {x ix y : Operand} {S : Nat → Prop} {cs : List Value} {I : Int} {w w' w1 w2 : World} {p : Prop} {P : Program} {Q Q' : Exit → Act → World → Prop} {ρ : Fr} {rest : List Oper} {pos : String} {aft : Array Edge} {pl : List (Nat × Nat)}
abbrev Sl (S : Nat → Prop) (T : TypeId) (k : IntKind) (w : World) (v : Value) (l : List Nat) : Prop:=Row S T 1 w v l.length (l.map fun d : Nat=>Value.int k d)
abbrev s5 (S : Nat → Prop) (T : TypeId) (k : IntKind) (w : World) (v : Value) (n : Nat) : Prop:=Sl S T k w v (dg n)
theorem b42 : ∀ u ∈ l.map (fun d : Nat=>Value.int k d),u.oneCell' = true:=fun u hu=>by
 obtain ⟨d,_,rfl⟩:=List.mem_map.1 hu
 rfl
section
variable {P : Program} {n : Nat} {Q : G8} {ρ : Fr} {w : World} {all rest : List Oper} {d : Tmp} {ty : TypeId} {pos : String} {aft : Array Edge}
theorem y8 [st : SlT P t T] [ti : TyI P T 1 b z agg] {w0 : World}
  (hv : ev ρ x = v) (hi : ev ρ ix = .int k I) (hI : I = (i : Int)) (hr : Row S T 1 w0 v m cs) (h1 : i < m)
  (h : WpR P n all Q rest (upd ρ d (.pointer (some (adr v i)))) w) : WpR P n all Q (⟨some d,.indexAddr t x ix,ty,pos,aft,none⟩ :: rest) ρ w:=by
 subst hI
 exact b02 hv hi hr (by omega) (by omega) (by simpa using h)
theorem r6 [ti : TyI P T 1 b z false]
  (hx : ev ρ x = .pointer (some (adr v i))) (hr : Sl S T k w v l) (hi : i < l.length) (h : WpR P n all Q rest (upd ρ d (.int k (l.getD i 0 : Nat))) w) :
  WpR P n all Q (⟨some d,.load T x,ty,pos,aft,none⟩ :: rest) ρ w:=by
 refine bg9 hx hr (u:=.int k (l.getD i 0 : Nat)) ?_ h
 simp [List.getD_eq_getElem?_getD,List.getElem?_eq_getElem hi]
theorem H8 [st : SlT P t T] [ti : TyI P T 1 b z agg] {cap : Nat}
  (hv : ev ρ x = .slice (some ⟨g,0,none⟩) m cap) (hi : ev ρ ix = .int k I) (hI : I = (i : Int)) (h1 : i < m)
  (h : WpR P n all Q rest (upd ρ d (.pointer (some ⟨g,i,none⟩))) w) : WpR P n all Q (⟨some d,.indexAddr t x ix,ty,pos,aft,none⟩ :: rest) ρ w:=by
 subst hI
 exact cj8 hv hi (by omega) (by omega) (by simpa using h)
theorem at1 [ti : TyI P T 1 b z false] {T' : TypeId}
  (hx : ev ρ x = .pointer (some ⟨g,i,none⟩)) (hb : Blk w g T' (l.map fun d : Nat=>.int k d)) (hi : i < l.length) (h : WpR P n all Q rest (upd ρ d (.int k (l.getD i 0 : Nat))) w) :
  WpR P n all Q (⟨some d,.load T x,ty,pos,aft,none⟩ :: rest) ρ w:=
 d7 hx hb (by simp [List.getD_eq_getElem?_getD,List.getElem?_eq_getElem hi]) h
theorem U6 [ti : TyI P t 1 b z agg]
  (hx : ev ρ x = .pointer (some ⟨g,i,none⟩)) (hy : ev ρ y = .int k I) (hI : I = (c : Int)) (hb : Blk w g T (l.map fun d : Nat=>.int k d)) (hi : i < l.length)
  (h : ∀ w',Wrt g w w' → Blk w' g T ((l.set i c).map fun d : Nat=>.int k d) → WpR P n all Q rest ρ w') : WpR P n all Q (⟨none,.store t x y,ty,pos,aft,none⟩ :: rest) ρ w:=by
 subst hI
 refine O4 hx hy hb (by simpa using hi) rfl fun w' h1 h2=>h w' h1 ?_
 rw [List.map_set]
 exact h2
end
theorem bh5 (h : Sl S 227 .u32 w v l) (hd : Digs l) :
  Gives prog 194 [v] w fun v' w'=>w' = w ∧ s5 S 227 .u32 w v' (r9 l):=by
 have hlen:=h.len_le
 unfold maxLen at hlen
 refine l6 func194 rfl rfl rfl ?_
 repeat (first | refine wW ?_ | refine z6 (by conv=>(lhs; whnf)) (by assumption) ?_)
 first | refine n6 ?_ | refine F9 ?_ | refine B5 ?_ | skip
 refine au3 [(3,3),(6,17)] (fun ρ w'=>w' = w ∧ ∃ j : Nat,ρ 3 = .int .i64 j ∧ j ≤ l.length ∧ (∀ i,j ≤ i → i < l.length → l.getD i 0 = 0) ∧ (j = 0 ∨ l.getD (j - 1) 0 ≠ 0)) ?_ ?_
 ·try refine n6 ?_
  refine F4 [(3,3),(6,17)] (fun j ρ w'=>w' = w ∧ ρ 3 = .int .i64 j ∧ j ≤ l.length ∧ ∀ i,j ≤ i → i < l.length → l.getD i 0 = 0) l.length ⟨rfl,rfl,Nat.le_refl _,fun i h1 h2=>by omega⟩ ?_
  rintro j u w' ⟨rfl,h3,hj,hz⟩
  refine j7 3 h3 ?_
  clear h3
  repeat (first | refine wW ?_ | refine b8 ?_ | refine Y1 rfl rfl ?_)
  refine D6 rfl rfl ?_ ?_ <;> intro hc
  ·obtain ⟨m,rfl⟩ : ∃ m,j = m + 1:=⟨j - 1,by omega⟩
   repeat (first | refine y8 (i:=m) (by conv=>(lhs; whnf)) rfl (by omega) h (by omega) ?_ | refine r6 rfl h (by omega) ?_ | refine wW ?_ | refine q6 rfl rfl ?_ | refine s4 rfl ?_ | refine ad2 rfl rfl ?_ | refine x9 rfl rfl ?_)
   try refine d8 ?_
   refine j3 rfl ?_ ?_ <;> intro hc2
   ·repeat (first | refine wW ?_ | refine J4 ?_ | refine wp_skip ?_ | refine af2 ?_ | refine x9 rfl rfl ?_)
    refine ⟨by (repeat (first | refine i7 rfl ?_ | exact c7 | refine j1 rfl ?_ | exact b9)),m,by omega,rfl,congrArg (Value.int .i64) (by omega),by omega,fun i h1 h2=>?_⟩
    by_cases e : i = m
    ·subst e; omega
    exact hz i (by omega) h2
   repeat (first | refine M5 ?_ | refine wp_exit ?_ | refine Y3 ?_ | refine R7 rfl ?_)
   exact ⟨by (repeat (first | refine i7 rfl ?_ | exact c7 | refine j1 rfl ?_ | exact b9)),rfl,m + 1,rfl,hj,hz,.inr (by simpa using hc2)⟩
  repeat (first | refine wW ?_ | refine wp_exit ?_ | refine Y3 ?_ | refine R7 rfl ?_ | refine s9 rfl rfl rfl ?_ | refine p9 rfl ?_ | refine wp_cond_false rfl ?_)
  exact ⟨by (repeat (first | refine i7 rfl ?_ | exact c7 | refine j1 rfl ?_ | exact b9)),rfl,j,rfl,hj,hz,.inl (by omega)⟩
 rintro u w' ⟨rfl,j,h3,hj,hz,hl⟩
 refine j7 3 h3 ?_
 clear h3
 repeat (first | refine dg7 (k:=j) (by conv=>(lhs; whnf)) h rfl rfl rfl hj ?_ | refine wW ?_)
 intro v' hv'
 repeat refine wW ?_
 refine o5 rfl ⟨rfl,?_⟩
 have e:=a00 hd hj hz hl
 have e2 : (dg (r9 l)).length = j:=by rw [← e,List.length_take]; omega
 show Row _ _ _ _ _ _ _
 rw [e2,← e]
 simpa [List.map_take] using hv'
theorem af8 (ha : s5 S 227 .u32 w va a) (hb : s5 S 227 .u32 w vb b) :
  Gives prog 210 [va,vb] w fun v' w'=>Ext w w' ∧ ∃ c : Int,v' = .int .i64 c ∧ du8 c a b:=by
 have la:=ha.len_le
 have lb:=hb.len_le
 unfold maxLen at la lb
 refine l6 func210 rfl rfl rfl ?_
 repeat (first | refine wW ?_ | refine b8 ?_ | refine z6 (by conv=>(lhs; whnf)) (by assumption) ?_ | refine b60 rfl rfl ?_)
 have hA:=ah3 a
 have hB:=ah3 b
 try refine d8 ?_
 refine j3 rfl ?_ ?_ <;> intro hc
 ·repeat (first | refine wW ?_ | refine r4 ?_ | refine z6 (by conv=>(lhs; whnf)) (by assumption) ?_ | refine x9 rfl rfl ?_)
  refine o5 rfl ⟨.refl,_,rfl,?_⟩
  rcases Nat.lt_or_gt_of_ne (fun e : (dg a).length = (dg b).length=>hc (by rw [e])) with h | h
  ·have:=ai7 hA hB h
   rw [x8,x8] at this
   exact ⟨by omega,by omega⟩
  have:=ai7 hB hA h
  rw [x8,x8] at this
  exact ⟨by omega,by omega⟩
 ·have hlen : (dg a).length = (dg b).length:=by omega
  clear hc
  repeat (first | refine wW ?_ | refine b8 ?_ | refine wp_skip ?_ | refine z6 (by conv=>(lhs; whnf)) (by assumption) ?_ | refine x9 rfl rfl ?_)
  try refine n6 ?_
  refine F4 [(4,5),(19,42)] (fun k ρ w'=>Ext w w' ∧ ρ 5 = .int .i64 (k - 1) ∧ k ≤ (dg a).length ∧ (dg a).drop k = (dg b).drop k) (dg a).length ⟨.refl,rfl,Nat.le_refl _,by rw [List.drop_of_length_le (Nat.le_refl _),List.drop_of_length_le (by omega)]⟩ ?_
  rintro k u w1 ⟨k1,h5,hk,hd⟩
  refine j7 5 h5 ?_
  clear h5
  replace ha:=ha.to k1
  replace hb:=hb.to k1
  repeat (first | refine wW ?_ | refine b8 ?_ | refine aj6 rfl rfl ?_)
  try refine d8 ?_
  refine j3 rfl ?_ ?_ <;> intro hc
  ·obtain ⟨m,rfl⟩ : ∃ m,k = m + 1:=⟨k - 1,by omega⟩
   repeat (first | refine A0 ?_ | refine y6 ?_ | refine q5 ?_ | refine wp_skip ?_)
   refine s7 8 ?_
   apply a7
   ·intro x w1 k1 hd
    refine q8 ?_
    refine b7 ?_
    exact i6
   apply a7
   ·intro x w1 k1 hd
    refine q8 ?_
    refine b7 ?_
    exact i6
   apply a7
   ·intro x w1 k1 hd
    refine y8 (i:=m) (by conv=>(lhs; whnf)) rfl (by omega) (ha.to k1) (by omega) ?_
    refine b7 ?_
    exact i6
   apply a7
   ·intro x w1 k1 hd
    refine r6 rfl (ha.to k1) (by omega) ?_
    refine b7 ?_
    exact i6
   apply a7
   ·intro x w1 k1 hd
    refine q8 ?_
    refine b7 ?_
    exact i6
   apply a7
   ·intro x w1 k1 hd
    refine q8 ?_
    refine b7 ?_
    exact i6
   apply a7
   ·intro x w1 k1 hd
    refine y8 (i:=m) (by conv=>(lhs; whnf)) rfl (by omega) (hb.to k1) (by omega) ?_
    refine b7 ?_
    exact i6
   apply a7
   ·intro x w1 k1 hd
    refine r6 rfl (hb.to k1) (by omega) ?_
    refine b7 ?_
    exact i6
   refine F5 (G7 ?_)
   intro x w2 k2 _
   have hda:=K7 a m
   have hdb:=K7 b m
   repeat (first | refine wW ?_ | refine b60 rfl rfl ?_)
   try refine d8 ?_
   refine j3 rfl ?_ ?_ <;> intro hc2
   ·repeat (first | refine A0 ?_)
    replace ha:=ha.to k2
    replace hb:=hb.to k2
    refine s7 11 ?_
    apply a7
    ·intro x w1 k1 hd
     refine q8 ?_
     refine b7 ?_
     exact i6
    apply a7
    ·intro x w1 k1 hd
     refine q8 ?_
     refine b7 ?_
     exact i6
    apply a7
    ·intro x w1 k1 hd
     refine y8 (i:=m) (by conv=>(lhs; whnf)) rfl (by omega) (ha.to k1) (by omega) ?_
     refine b7 ?_
     exact i6
    apply a7
    ·intro x w1 k1 hd
     refine r6 rfl (ha.to k1) (by omega) ?_
     refine b7 ?_
     exact i6
    apply a7
    ·intro x w1 k1 hd
     refine R3 rfl (wrap_i64 (by omega) (by omega)) ?_
     refine b7 ?_
     exact i6
    apply a7
    ·intro x w1 k1 hd
     refine q8 ?_
     refine b7 ?_
     exact i6
    apply a7
    ·intro x w1 k1 hd
     refine q8 ?_
     refine b7 ?_
     exact i6
    apply a7
    ·intro x w1 k1 hd
     refine y8 (i:=m) (by conv=>(lhs; whnf)) rfl (by omega) (hb.to k1) (by omega) ?_
     refine b7 ?_
     exact i6
    apply a7
    ·intro x w1 k1 hd
     refine r6 rfl (hb.to k1) (by omega) ?_
     refine b7 ?_
     exact i6
    apply a7
    ·intro x w1 k1 hd
     refine R3 rfl (wrap_i64 (by omega) (by omega)) ?_
     refine b7 ?_
     exact i6
    apply a7
    ·intro x w1 k1 hd
     refine x9 rfl rfl ?_
     refine b7 ?_
     exact i6
    refine F5 (G7 ?_)
    intro x w3 k3 _
    repeat (first | refine wW ?_ | refine r4 ?_ | refine N7 ?_)
    refine o5 rfl ⟨k1.trans (k2.trans k3),_,rfl,?_⟩
    rcases Nat.lt_or_gt_of_ne (fun e : (dg a).getD m 0 = (dg b).getD m 0=>hc2 (by rw [e])) with h | h
    ·have:=aq2 hA.1 (by omega) (by omega) hd h
     rw [x8,x8] at this
     exact ⟨by omega,by omega⟩
    have:=aq2 hB.1 (by omega) (by omega) hd.symm h
    rw [x8,x8] at this
    exact ⟨by omega,by omega⟩
   repeat (first | refine wW ?_ | refine wp_skip ?_ | refine x9 rfl rfl ?_)
   refine ⟨by (repeat (first | refine i7 rfl ?_ | exact c7 | refine j1 rfl ?_ | exact b9)),m,by omega,k1.trans k2,congrArg (Value.int .i64) (by omega),by omega,a55 (by omega) (by omega) hd (by omega)⟩
  repeat (first | refine wW ?_ | refine wp_exit ?_)
  refine o5 rfl ⟨k1,_,rfl,?_⟩
  obtain rfl : k = 0:=by omega
  simp only [List.drop_zero] at hd
  have h:=congrArg r9 hd
  rw [x8,x8] at h
  exact ⟨by omega,by omega⟩
theorem dr0 {x : Int} (h0 : -9000000000000000000 ≤ x) (h1 : x ≤ 9000000000000000000) : -9000000000000000000 ≤ x.tdiv 1000000000 ∧ x.tdiv 1000000000 ≤ 9000000000000000000:=by
 by_cases h : x.tmod 1000000000 < 0
 ·have:=bu1 h; omega
 have:=bt9 h; omega
def d09 (n : Nat) (k i : Nat) (c : Int) : Prop:=
 -2100000000 ≤ c ∧ c ≤ 4400000000 ∧ ((i < n ∧ (n - i) + 9223372036854775808 ≤ k) ∨ (n ≤ i ∧ i ≤ n + 2 ∧ c < 1000000000 ^ (n + 2 - i) ∧ c.toNat ≤ k))
theorem dh6 {k : Nat} {c x : Int} (h : d09 n k i c) (hx : -2000000000 ≤ x ∧ x ≤ 4300000000000000000) (hx0 : n ≤ i → x = 0) (hgo : i < n ∨ c ≠ 0) (h0 : n ≤ i → 0 ≤ c) :
  ∃ k',k' < k ∧ d09 n k' (i + 1) ((c + x) / 1000000000):=by
 obtain ⟨h1,h2,h3 | ⟨h3,h4,h5,h6⟩⟩:=h
 ·by_cases h : i + 1 < n
  ·exact ⟨(n - (i + 1)) + 9223372036854775808,by omega,by omega,by omega,.inl ⟨h,Nat.le_refl _⟩⟩
  refine ⟨((c + x) / 1000000000).toNat,by omega,by omega,by omega,.inr ⟨by omega,by omega,?_,Nat.le_refl _⟩⟩
  have e : n + 2 - (i + 1) = 2:=by omega
  rw [e]
  omega
 have hc:=h0 h3
 rw [hx0 h3,Int.add_zero]
 have hc1 : 1 ≤ c:=by omega
 have e : n + 2 - i ≠ 0:=by
  intro e
  rw [e] at h5
  simp at h5
  omega
 refine ⟨(c / 1000000000).toNat,by omega,by omega,by omega,.inr ⟨by omega,by omega,?_,Nat.le_refl _⟩⟩
 obtain ⟨m,hm⟩ : ∃ m,n + 2 - i = m + 1:=⟨n + 2 - i - 1,by omega⟩
 rw [hm,Int.pow_succ] at h5
 have e2 : n + 2 - (i + 1) = m:=by omega
 rw [e2]
 omega
theorem dq1 {v : Nat} {c : Int} (hd : Digs l) (h : (r9 l : Int) + 1000000000 ^ l.length * c = (tot : Int)) : 0 ≤ c:=by
 have h1:=av0 hd
 have h2 : ((r9 l : Nat) : Int) < ((1000000000 ^ l.length : Nat) : Int):=Int.ofNat_lt.2 h1
 rw [Int.natCast_pow] at h2
 rcases Int.lt_or_le c 0 with hc | hc
 ·have h3 : (1000000000 : Int) ^ l.length * c ≤ 1000000000 ^ l.length * (-1):=Int.mul_le_mul_of_nonneg_left (by omega) (Int.le_of_lt (Int.pow_pos (by omega)))
  have h4 : ((1000000000 : Nat) : Int) = 1000000000:=rfl
  rw [h4] at h2
  omega
 exact hc
theorem a91 {F : Nat} [CallI prog F] {caps : List Value} {x : Nat → Int} (hS : Up S w) (hn : n ≤ 1099511627776)
  (hx : ∀ i,i < n → -2000000000 ≤ x i ∧ x i ≤ 4300000000000000000) (ht : an5 x n = (tot : Int))
  (hF : ∀ i : Nat,i < n → ∀ w',Keeps (fun k=>k < w.heap.size) w w' → Gives prog F (.int .i64 i :: caps) w' fun v w''=>v = .int .i64 (x i) ∧ Ext w' w'') :
  Gives prog 233 [.int .i64 n,.func (.func F) #[] caps.toArray] w fun v' w'=>Ext w w' ∧ s5 S 227 .u32 w' v' tot:=by
 refine l6 func233 rfl rfl rfl ?_
 repeat (first | refine wW ?_ | refine A2 rfl rfl ?_)
 refine bb1 (l:=0) (c:=n + 1) rfl rfl rfl (by omega) (by omega) (by omega) (by unfold maxLen; omega) ?_
 intro w1 g k1 hb hg
 repeat (first | refine wW ?_ | refine b8 ?_)
 try refine n6 ?_
 refine F4 [(5,8),(12,44)] (fun k ρ w'=>∃ (i : Nat) (c : Int) (l : List Nat) (v : Value),ρ 7 = .int .i64 i ∧ ρ 6 = .int .i64 c ∧ ρ 5 = v ∧ l.length = i ∧ Digs l ∧ (r9 l : Int) + 1000000000 ^ i * c = an5 x (min i n) ∧
   d09 n k i c ∧ Ext w w' ∧ Own w.heap.size 227 1 w' v i (l.map fun d : Nat=>.int .u32 d)) ((n - 0) + 9223372036854775808)
  ⟨0,0,[],_,rfl,rfl,rfl,rfl,V0,by simp [r9,an5],?_,k1,c59 hb hg (by unfold maxLen; omega) (by simp [size_madeCells])⟩ ?_
 ·by_cases h : 0 < n
  ·exact ⟨by omega,by omega,.inl ⟨h,by omega⟩⟩
  exact ⟨by omega,by omega,.inr ⟨by omega,by omega,Int.pow_pos (by omega),by omega⟩⟩
 ·rintro k u w2 ⟨i,c,l,v,h7,h6,h5,hl,hd,hv,hcar,k2,ho⟩
  refine j7 7 h7 (j7 6 h6 (j7 5 h5 ?_))
  clear h7 h6 h5
  have hcb : -2100000000 ≤ c ∧ c ≤ 1000000000000000000 ∧ i ≤ n + 2:=by
   obtain ⟨h1,h2,h | ⟨h3,h4,h5,h6⟩⟩:=hcar
   ·omega
   omega
  subst hl
  refine wp_seq (au3 [(12,18)] (fun ρ w'=>w' = w2 ∧ (l.length < n ∨ c ≠ 0)) ?_ ?_)
  ·repeat (first | refine wW ?_ | refine N4 rfl rfl ?_)
   refine D6 rfl rfl ?_ ?_ <;> intro hc
   ·repeat (first | refine wW ?_ | refine wp_skip ?_ | refine s9 rfl rfl rfl ?_ | refine s4 rfl ?_ | refine wp_cond_true rfl ?_)
    exact ⟨by (repeat (first | refine i7 rfl ?_ | exact c7 | refine j1 rfl ?_ | exact b9)),rfl,.inl (by omega)⟩
   ·repeat (first | refine wW ?_ | refine q6 rfl rfl ?_ | refine p9 rfl ?_ | refine b60 rfl rfl ?_)
    try refine d8 ?_
    refine j3 rfl ?_ ?_ <;> intro hc2
    ·repeat (first | refine M5 ?_ | refine wp_skip ?_)
     exact ⟨by (repeat (first | refine i7 rfl ?_ | exact c7 | refine j1 rfl ?_ | exact b9)),rfl,.inr hc2⟩
    repeat (first | refine wW ?_ | refine wp_exit ?_)
    refine d9 (bh5 (Row.of_own ho hS) hd) rfl ?_
    rintro v' w' ⟨rfl,hv'⟩
    repeat refine wW ?_
    refine o5 rfl ⟨k2,?_⟩
    obtain rfl : c = 0:=by omega
    rw [Nat.min_eq_right (by omega),ht] at hv
    have e : r9 l = tot:=by omega
    rw [← e]
    exact hv'
  ·rintro u2 w3 ⟨rfl,hgo⟩
   obtain ⟨xx,hxx⟩ : ∃ xx : Int,xx = if l.length < n then x l.length else 0:=⟨_,rfl⟩
   have hxb : -2000000000 ≤ xx ∧ xx ≤ 4300000000000000000:=by
    rw [hxx]
    split
    ·exact hx _ ‹_›
    omega
   repeat (first | refine wW ?_ | refine b8 ?_ | refine y6 ?_ | refine q5 ?_ | refine N4 rfl rfl ?_)
   first | refine d8 ?_ | refine F9 ?_ | refine B5 ?_ | skip
   refine R6 [(8,8),(25,29)] (fun ρ w'=>ρ 8 = .int .i64 (c + xx) ∧ Ext w3 w') rfl ?_ ?_ ?_
   ·intro hi
    repeat refine wW ?_
    refine dm3 (cap:=caps) (first:=[]) rfl (hF l.length (by omega) w3 (Keeps.mono k2 fun _ _=>trivial)) rfl ?_
    rintro v4 w4 ⟨rfl,k4⟩
    have e : x l.length = xx:=by rw [hxx,if_pos (by omega)]
    rw [e]
    repeat (first | refine wW ?_ | refine A2 rfl rfl ?_)
    exact ⟨by (repeat (first | refine i7 rfl ?_ | exact c7 | refine j1 rfl ?_ | exact b9)),rfl,k4⟩
   ·intro hi
    repeat (first | refine M5 ?_ | refine wp_skip ?_)
    exact ⟨by (repeat (first | refine i7 rfl ?_ | exact c7 | refine j1 rfl ?_ | exact b9)),congrArg (Value.int .i64) (by rw [hxx,if_neg (by omega)]; omega),.refl⟩
   ·rintro u4 w4 ⟨h8,k4⟩
    refine j7 8 h8 ?_
    clear h8
    have hc2 : c ≤ 4400000000:=hcar.2.1
    have hq:=dr0 (x:=c + xx) (by omega) (by omega)
    repeat (first | refine c84 (c:=(c + xx).tdiv 1000000000) rfl rfl (by omega) (wrap_i64 (by omega) (by omega)) ?_ | refine dt6 rfl rfl (by omega) ?_ | refine wW ?_ | refine b8 ?_ | refine N4 rfl rfl ?_)
    first | refine d8 ?_ | refine F9 ?_ | refine B5 ?_ | skip
    refine R6 [(6,6),(8,8),(36,39)] (fun ρ w'=>ρ 8 = .int .i64 ((c + xx) % 1000000000) ∧ ρ 6 = .int .i64 ((c + xx) / 1000000000) ∧ w' = w4) rfl ?_ ?_ ?_
    ·intro hneg
     have hf:=bu1 hneg
     repeat (first | refine wW ?_ | refine A2 rfl rfl ?_ | refine x9 rfl rfl ?_)
     exact ⟨by (repeat (first | refine i7 rfl ?_ | exact c7 | refine j1 rfl ?_ | exact b9)),congrArg (Value.int .i64) hf.1,congrArg (Value.int .i64) hf.2,rfl⟩
    ·intro hneg
     have hf:=bt9 hneg
     repeat (first | refine M5 ?_ | refine wp_skip ?_)
     exact ⟨by (repeat (first | refine i7 rfl ?_ | exact c7 | refine j1 rfl ?_ | exact b9)),congrArg (Value.int .i64) hf.1,congrArg (Value.int .i64) hf.2,rfl⟩
    ·rintro u5 w5 ⟨h8,h6,rfl⟩
     refine j7 8 h8 (j7 6 h6 ?_)
     clear h8 h6
     repeat (first | refine wW ?_ | refine R3 rfl (ah5 (by omega) (by omega)) ?_)
     refine ab4 (by conv=>(lhs; whnf)) rfl ?_
     intro w6 g6 k6 hb6 hg6
     have hsz:=k2.size
     have hsz4:=k4.size
     have hsz6:=k6.size
     refine U2 (by conv=>(lhs; whnf)) (ab6 (ab6 ho k4) k6) rfl hb6 (by omega) rfl (by simp [Value.oneCell']) (by unfold maxLen; omega) (by omega) (by omega) ?_
     intro v7 w7 ho7 k7
     repeat (first | refine wW ?_ | refine A2 rfl rfl ?_)
     have hcar2:=dh6 hcar hxb (fun h=>by rw [hxx,if_neg (by omega)]) hgo (fun h=>dq1 (v:=0) hd (by rw [hv,Nat.min_eq_right h,ht]))
     obtain ⟨k',hk',hcar'⟩:=hcar2
     refine ⟨by (repeat (first | refine i7 rfl ?_ | exact c7 | refine j1 rfl ?_ | exact b9)),k',hk',l.length + 1,(c + xx) / 1000000000,l ++ [((c + xx) % 1000000000).toNat],v7,rfl,rfl,rfl,by simp,?_,?_,hcar',?_,?_⟩
     ·refine hd.append fun d hdm=>?_
      obtain rfl : d = _:=by simpa using hdm
      omega
     ·have hs:=ck4 (x:=xx) hv
      rw [Y5,r9,r9,Nat.mul_zero,Nat.add_zero,hs]
      by_cases hi : l.length < n
      ·rw [Nat.min_eq_left (by omega),Nat.min_eq_left (by omega),an5,hxx,if_pos hi]
      rw [Nat.min_eq_right (by omega),Nat.min_eq_right (by omega),hxx,if_neg hi]
      omega
     ·exact Keeps.later (k2.trans (k4.trans k6)) k7 fun i hi _ e=>by have:=(ho.lt i e.symm).1; omega
     have e : (((c + xx) % 1000000000).toNat : Int) = (c + xx) % 1000000000:=Int.toNat_of_nonneg (by omega)
     simpa [e] using ho7
theorem c71 (i : Nat) (ha : s5 S 227 .u32 w va a) :
  Gives prog 232 [va,.int .i64 i] w fun v' w'=>v' = .int .i64 ((dg a).getD i 0 : Nat) ∧ Ext w w':=by
 have la:=ha.len_le
 unfold maxLen at la
 have hdl:=K7 a i
 refine l6 func232 rfl rfl rfl ?_
 repeat (first | refine wW ?_ | refine b8 ?_ | refine z6 (by conv=>(lhs; whnf)) (by assumption) ?_ | refine N4 rfl rfl ?_)
 try refine d8 ?_
 refine j3 rfl ?_ ?_ <;> intro hc
 ·repeat (first | refine y8 (by conv=>(lhs; whnf)) rfl rfl ha (by omega) ?_ | refine r6 rfl ha (by omega) ?_ | refine wW ?_ | refine r4 ?_ | refine R3 rfl (wrap_i64 (by omega) (by omega)) ?_)
  exact o5 rfl ⟨rfl,.refl⟩
 repeat (first | refine wW ?_ | refine wp_skip ?_)
 refine o5 rfl ⟨congrArg (Value.int .i64) ?_,.refl⟩
 rw [List.getD_eq_getElem?_getD,List.getElem?_eq_none (by omega)]
 rfl
theorem bw7 (ha : s5 S 227 .u32 w va a) :
  Gives prog 175 [va] w fun v' w'=>v' = .bool (tst (a = 1)) ∧ w' = w:=by
 have la:=ha.len_le
 unfold maxLen at la
 refine l6 func175 rfl rfl rfl ?_
 repeat (first | refine wW ?_ | refine z6 (by conv=>(lhs; whnf)) (by assumption) ?_ | refine ad2 rfl rfl ?_)
 refine D6 rfl rfl ?_ ?_ <;> intro hc
 ·repeat (first | refine y8 (i:=0) (by conv=>(lhs; whnf)) rfl rfl ha (by omega) ?_ | refine r6 rfl ha (by omega) ?_ | refine wW ?_ | refine q6 rfl rfl ?_ | refine s4 rfl ?_ | refine ad2 rfl rfl ?_)
  refine o5 rfl ⟨congrArg Value.bool ?_,rfl⟩
  have h1 : dg a = [(dg a).getD 0 0]:=by
   cases h : dg a with
   | nil=>rw [h] at hc; simp at hc
   | cons d r=>
    rw [h] at hc
    obtain rfl : r = []:=List.eq_nil_of_length_eq_zero (by simp at hc; omega)
    rfl
  have h2:=congrArg r9 h1
  rw [x8] at h2
  simp only [r9,Nat.mul_zero,Nat.add_zero] at h2
  by_cases e : a = 1
  ·rw [j6 e,j6 (by omega)]
  rw [j2 e,j2 (by omega)]
 repeat (first | refine wW ?_ | refine s9 rfl rfl rfl ?_ | refine p9 rfl ?_)
 refine o5 rfl ⟨congrArg Value.bool ?_,rfl⟩
 rw [j2]
 rintro rfl
 exact hc rfl
theorem c96 (hS : Up S w) :
  Gives prog 195 [] w fun v' w'=>Ext w w' ∧ s5 S 227 .u32 w' v' 1:=by
 refine l6 func195 rfl rfl rfl ?_
 repeat refine wW ?_
 refine ab4 (by conv=>(lhs; whnf)) rfl ?_
 intro w1 g k1 hb hg
 repeat refine wW ?_
 refine o5 rfl ⟨k1,?_⟩
 have:=Row.of_blk (s:=1) (n:=1) (cap:=1) hb (hS g hg) (Nat.le_refl _) (by unfold maxLen; omega) rfl
 exact this
theorem do8 (i : Nat) (ha : s5 S 227 .u32 w va a) (hb : s5 S 227 .u32 w vb b)
  (hga : Blk w ga 49 [va]) (hgb : Blk w gb 49 [vb]) :
  Gives prog 236 [.int .i64 i,.pointer (some ⟨ga,0,none⟩),.pointer (some ⟨gb,0,none⟩)] w fun v' w'=>v' = .int .i64 (((dg a).getD i 0 : Nat) + ((dg b).getD i 0 : Nat)) ∧ Ext w w':=by
 have hda:=K7 a i
 have hdb:=K7 b i
 refine l6 func236 rfl rfl rfl ?_
 repeat refine wW ?_
 refine s7 7 ?_
 apply a7
 ·intro x w1 k1 hd
  refine d7 rfl (hga.to k1) rfl ?_
  refine b7 ?_
  exact i6
 apply a7
 ·intro x w1 k1 hd
  refine q8 ?_
  refine b7 ?_
  exact i6
 refine a7 (e:=.eq (.int .i64 ((dg a).getD i 0 : Nat))) ?_ ?_
 ·intro x w1 k1 hd
  refine d9 (c71 i (ha.to k1)) rfl ?_
  rintro v2 w2 ⟨rfl,k2⟩
  exact b7 ⟨rfl,k2,_,rfl,A8 _ _ _,fun h=>by cases h⟩
 apply a7
 ·intro x w1 k1 hd
  refine d7 rfl (hgb.to k1) rfl ?_
  refine b7 ?_
  exact i6
 apply a7
 ·intro x w1 k1 hd
  refine q8 ?_
  refine b7 ?_
  exact i6
 refine a7 (e:=.eq (.int .i64 ((dg b).getD i 0 : Nat))) ?_ ?_
 ·intro x w1 k1 hd
  refine d9 (c71 i (hb.to k1)) rfl ?_
  rintro v2 w2 ⟨rfl,k2⟩
  exact b7 ⟨rfl,k2,_,rfl,A8 _ _ _,fun h=>by cases h⟩
 apply a7
 ·intro x w1 k1 hd
  refine A2 rfl rfl ?_
  refine b7 ?_
  exact i6
 refine F5 (G7 ?_)
 intro x w3 k3 _
 repeat refine wW ?_
 exact o5 rfl ⟨rfl,k3⟩
theorem ds8 (i : Nat) (ha : s5 S 227 .u32 w va a) (hb : s5 S 227 .u32 w vb b)
  (hga : Blk w ga 49 [va]) (hgb : Blk w gb 49 [vb]) :
  Gives prog 235 [.int .i64 i,.pointer (some ⟨ga,0,none⟩),.pointer (some ⟨gb,0,none⟩)] w fun v' w'=>v' = .int .i64 (((dg a).getD i 0 : Nat) - ((dg b).getD i 0 : Nat)) ∧ Ext w w':=by
 have hda:=K7 a i
 have hdb:=K7 b i
 refine l6 func235 rfl rfl rfl ?_
 repeat refine wW ?_
 refine s7 7 ?_
 apply a7
 ·intro x w1 k1 hd
  refine d7 rfl (hga.to k1) rfl ?_
  refine b7 ?_
  exact i6
 apply a7
 ·intro x w1 k1 hd
  refine q8 ?_
  refine b7 ?_
  exact i6
 refine a7 (e:=.eq (.int .i64 ((dg a).getD i 0 : Nat))) ?_ ?_
 ·intro x w1 k1 hd
  refine d9 (c71 i (ha.to k1)) rfl ?_
  rintro v2 w2 ⟨rfl,k2⟩
  exact b7 ⟨rfl,k2,_,rfl,A8 _ _ _,fun h=>by cases h⟩
 apply a7
 ·intro x w1 k1 hd
  refine d7 rfl (hgb.to k1) rfl ?_
  refine b7 ?_
  exact i6
 apply a7
 ·intro x w1 k1 hd
  refine q8 ?_
  refine b7 ?_
  exact i6
 refine a7 (e:=.eq (.int .i64 ((dg b).getD i 0 : Nat))) ?_ ?_
 ·intro x w1 k1 hd
  refine d9 (c71 i (hb.to k1)) rfl ?_
  rintro v2 w2 ⟨rfl,k2⟩
  exact b7 ⟨rfl,k2,_,rfl,A8 _ _ _,fun h=>by cases h⟩
 apply a7
 ·intro x w1 k1 hd
  refine x9 rfl rfl ?_
  refine b7 ?_
  exact i6
 refine F5 (G7 ?_)
 intro x w3 k3 _
 repeat refine wW ?_
 exact o5 rfl ⟨rfl,k3⟩
theorem c26 {gc : Nat} (i : Nat) (hi : i < dl a) (ha : s5 S 227 .u32 w va a) (hc : c ≤ 4294967295)
  (hga : Blk w ga 49 [va]) (hgc : Blk w gc 227 [.int .u32 c]) :
  Gives prog 234 [.int .i64 i,.pointer (some ⟨ga,0,none⟩),.pointer (some ⟨gc,0,none⟩)] w fun v' w'=>v' = .int .i64 (((dg a).getD i 0 : Nat) * c) ∧ Ext w w':=by
 have hda:=K7 a i
 have hm : (((dg a).getD i 0 : Nat) : Int) * c ≤ 1000000000 * 4294967295:=Int.mul_le_mul (by omega) (by omega) (by omega) (by omega)
 have hm0 : 0 ≤ (((dg a).getD i 0 : Nat) : Int) * c:=Int.mul_nonneg (by omega) (by omega)
 refine l6 func234 rfl rfl rfl ?_
 repeat refine wW ?_
 refine s7 8 ?_
 apply a7
 ·intro x w1 k1 hd
  refine d7 rfl (hga.to k1) rfl ?_
  refine b7 ?_
  exact i6
 apply a7
 ·intro x w1 k1 hd
  refine q8 ?_
  refine b7 ?_
  exact i6
 apply a7
 ·intro x w1 k1 hd
  refine y8 (by conv=>(lhs; whnf)) rfl rfl (ha.to k1) hi ?_
  refine b7 ?_
  exact i6
 apply a7
 ·intro x w1 k1 hd
  refine r6 rfl (ha.to k1) hi ?_
  refine b7 ?_
  exact i6
 apply a7
 ·intro x w1 k1 hd
  refine R3 rfl (wrap_i64 (by omega) (by omega)) ?_
  refine b7 ?_
  exact i6
 apply a7
 ·intro x w1 k1 hd
  refine d7 rfl (hgc.to k1) rfl ?_
  refine b7 ?_
  exact i6
 apply a7
 ·intro x w1 k1 hd
  refine R3 rfl (wrap_i64 (by omega) (by omega)) ?_
  refine b7 ?_
  exact i6
 apply a7
 ·intro x w1 k1 hd
  refine bb5 rfl rfl (by omega) (by omega) ?_
  refine b7 ?_
  exact i6
 refine F5 (G7 ?_)
 intro x w3 k3 _
 repeat refine wW ?_
 exact o5 rfl ⟨rfl,k3⟩
theorem d87 (hS : Up S w) (ha : s5 S 227 .u32 w va a) (hb : s5 S 227 .u32 w vb b) (hla : dl a ≤ 1099511627776) (hlb : dl b ≤ 1099511627776) :
  Gives prog 215 [va,vb] w fun v' w'=>Ext w w' ∧ s5 S 227 .u32 w' v' (a + b):=by
 refine l6 func215 rfl rfl rfl ?_
 repeat refine wW ?_
 refine a93 (by conv=>(lhs; whnf)) ha.one ?_
 intro w1 g1 k1 h1 hg1
 skip
 refine a93 (by conv=>(lhs; whnf)) hb.one ?_
 intro w2 g2 k2 h2 hg2
 replace h1:=h1.to k2
 have k:=k1.trans k2
 replace ha:=ha.to k
 replace hb:=hb.to k
 repeat (first | refine d7 rfl h1 rfl ?_ | refine d7 rfl h2 rfl ?_ | refine wW ?_ | refine z6 (by conv=>(lhs; whnf)) (by assumption) ?_ | refine c51 rfl rfl ?_ | refine a08 ?_)
 refine d9 (a91 (S:=S) (n:=max (dl a) (dl b)) (F:=236) (tot:=a + b) (caps:=[.pointer (some ⟨g1,0,none⟩),.pointer (some ⟨g2,0,none⟩)])
  (x:=fun i=>((dg a).getD i 0 : Nat) + ((dg b).getD i 0 : Nat)) (hS.to k) (by omega) (fun i _=>by have:=K7 a i; have:=K7 b i; omega) ?_ ?_) ?_ ?_
 ·rw [c13,a69 (Nat.le_max_left ..),a69 (Nat.le_max_right ..)]; rfl
 ·intro i hi w3 k3
  have kk : Keeps (fun i=>i < w2.heap.size) w2 w3:=k3
  exact do8 (S:=fun i=>S i ∧ i < w2.heap.size) i ((ha.mono fun j hj hs=>⟨hs,hj⟩).keep (kk.mono fun j hj=>hj.2)) ((hb.mono fun j hj hs=>⟨hs,hj⟩).keep (kk.mono fun j hj=>hj.2)) (h1.keep kk h1.lt) (h2.keep kk h2.lt)
 ·exact cp2 (congrArg (Value.int .i64) (by unfold dl; omega)) rfl
 rintro v4 w4 ⟨k4,h4⟩
 repeat refine wW ?_
 exact o5 rfl ⟨k.trans k4,h4⟩
theorem bl1 (hS : Up S w) (ha : s5 S 227 .u32 w va a) (hb : s5 S 227 .u32 w vb b) (hla : dl a ≤ 1099511627776) (hba : b ≤ a) :
  Gives prog 214 [va,vb] w fun v' w'=>Ext w w' ∧ s5 S 227 .u32 w' v' (a - b):=by
 refine l6 func214 rfl rfl rfl ?_
 repeat refine wW ?_
 refine a93 (by conv=>(lhs; whnf)) ha.one ?_
 intro w1 g1 k1 h1 hg1
 skip
 refine a93 (by conv=>(lhs; whnf)) hb.one ?_
 intro w2 g2 k2 h2 hg2
 replace h1:=h1.to k2
 have k:=k1.trans k2
 replace ha:=ha.to k
 replace hb:=hb.to k
 repeat (first | refine d7 rfl h1 rfl ?_ | refine wW ?_ | refine z6 (by conv=>(lhs; whnf)) (by assumption) ?_ | refine a08 ?_)
 refine d9 (a91 (S:=S) (n:=dl a) (F:=235) (tot:=a - b) (caps:=[.pointer (some ⟨g1,0,none⟩),.pointer (some ⟨g2,0,none⟩)])
  (x:=fun i=>((dg a).getD i 0 : Nat) - ((dg b).getD i 0 : Nat)) (hS.to k) (by omega) (fun i _=>by have:=K7 a i; have:=K7 b i; omega) ?_ ?_) rfl ?_
 ·rw [df4,a69 (Nat.le_refl _),a69 (I6 hba)]; omega
 ·intro i hi w3 k3
  have kk : Keeps (fun i=>i < w2.heap.size) w2 w3:=k3
  exact ds8 (S:=fun i=>S i ∧ i < w2.heap.size) i ((ha.mono fun j hj hs=>⟨hs,hj⟩).keep (kk.mono fun j hj=>hj.2)) ((hb.mono fun j hj hs=>⟨hs,hj⟩).keep (kk.mono fun j hj=>hj.2)) (h1.keep kk h1.lt) (h2.keep kk h2.lt)
 rintro v4 w4 ⟨k4,h4⟩
 repeat refine wW ?_
 exact o5 rfl ⟨k.trans k4,h4⟩
theorem dp8 (hS : Up S w) (ha : s5 S 227 .u32 w va a) (hla : dl a ≤ 1099511627776) (hc : c ≤ 4294967295) :
  Gives prog 213 [va,.int .u32 c] w fun v' w'=>Ext w w' ∧ s5 S 227 .u32 w' v' (a * c):=by
 refine l6 func213 rfl rfl rfl ?_
 repeat refine wW ?_
 refine a93 (by conv=>(lhs; whnf)) ha.one ?_
 intro w1 g1 k1 h1 hg1
 skip
 refine a93 (by conv=>(lhs; whnf)) rfl ?_
 intro w2 g2 k2 h2 hg2
 replace h1:=h1.to k2
 have k:=k1.trans k2
 replace ha:=ha.to k
 repeat (first | refine d7 rfl h1 rfl ?_ | refine wW ?_ | refine z6 (by conv=>(lhs; whnf)) (by assumption) ?_ | refine a08 ?_)
 refine d9 (a91 (S:=S) (n:=dl a) (F:=234) (tot:=a * c) (caps:=[.pointer (some ⟨g1,0,none⟩),.pointer (some ⟨g2,0,none⟩)])
  (x:=fun i=>((dg a).getD i 0 : Nat) * (c : Int)) (hS.to k) (by omega) (fun i _=>?_) ?_ ?_) rfl ?_
 ·have hda:=K7 a i
  have hm : (((dg a).getD i 0 : Nat) : Int) * c ≤ 1000000000 * 4294967295:=Int.mul_le_mul (by omega) (by omega) (by omega) (by omega)
  have hm0 : 0 ≤ (((dg a).getD i 0 : Nat) : Int) * c:=Int.mul_nonneg (by omega) (by omega)
  omega
 ·rw [c76,a69 (Nat.le_refl _),Int.natCast_mul]
 ·intro i hi w3 k3
  have kk : Keeps (fun i=>i < w2.heap.size) w2 w3:=k3
  exact c26 (S:=fun i=>S i ∧ i < w2.heap.size) i hi ((ha.mono fun j hj hs=>⟨hs,hj⟩).keep (kk.mono fun j hj=>hj.2)) hc (h1.keep kk h1.lt) (h2.keep kk h2.lt)
 rintro v4 w4 ⟨k4,h4⟩
 repeat refine wW ?_
 exact o5 rfl ⟨k.trans k4,h4⟩
theorem cy0 (hS : Up S w) (ha : s5 S 227 .u32 w va a) (hla : dl a ≤ 1099511627776) (hc : c < 1000000000) :
  Gives prog 211 [va,.int .u32 c] w fun v' w'=>Ext w w' ∧ s5 S 227 .u32 w' v' (c + 1000000000 * a):=by
 refine l6 func211 rfl rfl rfl ?_
 repeat refine wW ?_
 refine ab4 (by conv=>(lhs; whnf)) rfl ?_
 intro w1 g1 k1 h1 hg1
 replace ha:=ha.to k1
 have hla' : (dg a).length ≤ 1099511627776:=hla
 repeat (first | refine q8 ?_)
 refine a47 (by conv=>(lhs; whnf)) (av4 h1 hg1 (by unfold maxLen; omega) rfl) (by conv=>(lhs; whnf)) ha (by omega) b42 (by unfold maxLen; omega) (by omega) k1.size ?_
 intro v2 w2 ho k2
 skip
 have hd : Digs (c :: dg a):=(a35 a).cons hc
 refine d9 (bh5 (S:=S) (v:=v2) (l:=c :: dg a) ?_ hd) rfl ?_
 ·have h4:=Row.of_own ho hS
  rw [Nat.add_comm] at h4
  exact h4
 rintro v3 w3 ⟨rfl,h3⟩
 repeat refine wW ?_
 refine o5 rfl ⟨?_,?_⟩
 ·exact Keeps.later k1 k2 fun i hi _ e=>by simp [Value.ownBlock] at e; omega
 simpa [r9,x8] using h3
theorem ap2 (hS : Up S w) (ha : s5 S 227 .u32 w va a) (hb : s5 S 227 .u32 w vb b) (hla : dl a ≤ 1099511627776) (hlb : dl b ≤ 1099511627776) :
  Gives prog 166 [va,vb] w fun v' w'=>Ext w w' ∧ s5 S 227 .u32 w' v' (a * b):=by
 have hla' : (dg a).length ≤ 1099511627776:=hla
 have hlb' : (dg b).length ≤ 1099511627776:=hlb
 refine l6 func166 rfl rfl rfl ?_
 repeat (first | refine wW ?_ | refine z6 (by conv=>(lhs; whnf)) (by assumption) ?_ | refine A2 rfl rfl ?_)
 refine bb1 (l:=(dg a).length + (dg b).length) (c:=(dg a).length + (dg b).length) rfl rfl (by omega) (by omega) (Nat.le_refl _) (by omega) (by unfold maxLen; omega) ?_
 intro w1 g k1 hg hgs
 have hg : Blk w1 g 227 ((List.replicate ((dg a).length + (dg b).length) 0).map fun d : Nat=>.int .u32 d):=by
  simpa [toList_madeCells_one,Value.cells,List.map_replicate] using hg
 have ha0:=ha.mono (S':=fun k=>S k ∧ k < w.heap.size) fun i hi hs=>⟨hs,hi⟩
 have hb0:=hb.mono (S':=fun k=>S k ∧ k < w.heap.size) fun i hi hs=>⟨hs,hi⟩
 repeat (first | refine wW ?_ | refine b8 ?_ | refine z6 (by conv=>(lhs; whnf)) (by assumption) ?_)
 try refine n6 ?_
 refine F4 [(6,11),(20,66)] (fun k ρ w'=>∃ (i : Nat) (o : List Nat),k + i = (dg a).length ∧ ρ 20 = .int .i64 i ∧ o.length = (dg a).length + (dg b).length ∧ Digs o ∧ r9 o = r9 ((dg a).take i) * b ∧ (∀ j,i + (dg b).length ≤ j → o.getD j 0 = 0) ∧
   Blk w' g 227 (o.map fun d : Nat=>.int .u32 d) ∧ Keeps (fun k=>k < w.heap.size) w w') (dg a).length
  ⟨0,List.replicate ((dg a).length + (dg b).length) 0,by omega,rfl,by simp,fun x hx=>by rw [List.eq_of_mem_replicate hx]; omega,by rw [a09]; simp [r9],fun j _=>by simp [List.getD_eq_getElem?_getD,List.getElem?_replicate]; split <;> rfl,hg,k1.mono fun _ _=>trivial⟩ ?_
 rintro k u w2 ⟨i,o,hki,h20,hol,hod,hv,hz,hg2,k2⟩
 refine j7 20 h20 ?_
 clear h20 hg
 have ha2 : s5 (fun k=>S k ∧ k < w.heap.size) 227 .u32 w2 va a:=ha0.keep (k2.mono fun i hi=>hi.2)
 have hb2 : s5 (fun k=>S k ∧ k < w.heap.size) 227 .u32 w2 vb b:=hb0.keep (k2.mono fun i hi=>hi.2)
 have hda:=K7 a i
 repeat (first | refine wW ?_ | refine N4 rfl rfl ?_)
 try refine d8 ?_
 refine j3 rfl ?_ ?_ <;> intro hc
 ·repeat (first | refine y8 (by conv=>(lhs; whnf)) rfl rfl ha2 (by omega) ?_ | refine r6 rfl ha2 (by omega) ?_ | refine wW ?_ | refine b8 ?_ | refine y6 ?_ | refine q5 ?_ | refine wp_skip ?_ | refine z6 (by conv=>(lhs; whnf)) (by assumption) ?_)
  obtain ⟨x,hx⟩ : ∃ x,x = (dg a).getD i 0:=⟨_,rfl⟩
  rw [← hx] at hda ⊢
  first | refine n6 ?_ | refine F9 ?_ | refine B5 ?_ | skip
  refine au3 [(8,11),(27,57)] (fun ρ w'=>∃ (o' : List Nat) (c : Nat),ρ 8 = .int .u64 c ∧ c < 1000000000 ∧ o'.length = o.length ∧ Digs o' ∧ r9 o' + 1000000000 ^ (i + (dg b).length) * c = r9 o + 1000000000 ^ i * (x * b) ∧
    (∀ j,i + (dg b).length ≤ j → o'.getD j 0 = 0) ∧ Blk w' g 227 (o'.map fun d : Nat=>.int .u32 d) ∧ Keeps (fun k=>k < w.heap.size) w w') ?_ ?_
  ·try refine n6 ?_
   refine F4 [(8,11),(27,57)] (fun k ρ w'=>∃ (j : Nat) (o' : List Nat) (c : Nat),k + j = (dg b).length ∧ ρ 27 = .int .i64 j ∧ ρ 8 = .int .u64 c ∧ c < 1000000000 ∧ o'.length = o.length ∧ Digs o' ∧ r9 o' + 1000000000 ^ (i + j) * c = r9 o + 1000000000 ^ i * (x * r9 ((dg b).take j)) ∧
    (∀ j,i + (dg b).length ≤ j → o'.getD j 0 = 0) ∧ Blk w' g 227 (o'.map fun d : Nat=>.int .u32 d) ∧ Keeps (fun k=>k < w.heap.size) w w') (dg b).length
    ⟨0,o,0,by omega,rfl,rfl,by omega,rfl,hod,by simp [r9],hz,hg2,k2⟩ ?_
   rintro k' u3 w3 ⟨j,o',c,hkj,h27,h8,hcb,hol',hod',hv',hz',hg3,k3⟩
   refine j7 27 h27 (j7 8 h8 ?_)
   clear h27 h8
   have hb3 : s5 (fun k=>S k ∧ k < w.heap.size) 227 .u32 w3 vb b:=hb0.keep (k3.mono fun i hi=>hi.2)
   have hdb:=K7 b j
   repeat (first | refine wW ?_ | refine N4 rfl rfl ?_)
   try refine d8 ?_
   refine j3 rfl ?_ ?_ <;> intro hcj
   ·have hm : ((x : Nat) : Int) * ((dg b).getD j 0 : Nat) ≤ 999999999 * 999999999:=Int.mul_le_mul (by omega) (by omega) (by omega) (by omega)
    have hm0 : 0 ≤ ((x : Nat) : Int) * ((dg b).getD j 0 : Nat):=Int.mul_nonneg (by omega) (by omega)
    have hdo:=hod'.getD (i + j)
    repeat (first | refine y8 (by conv=>(lhs; whnf)) rfl rfl hb3 (by omega) ?_ | refine r6 rfl hb3 (by omega) ?_ | refine dx4 rfl rfl (by omega) (by omega) ?_ | refine H8 (i:=i + j) rfl rfl (by omega) (by omega) ?_ | refine at1 rfl hg3 (by omega) ?_ | refine dw8 rfl rfl (by omega) (by omega) ?_ | refine wW ?_ | refine y6 ?_ | refine q5 ?_ | refine wp_skip ?_ | refine A2 rfl rfl ?_ | refine R3 rfl (at5 (by omega) (by omega)) ?_ | refine R3 rfl (ah5 (by omega) (by omega)) ?_ | refine aq0 rfl rfl (by omega) (by omega) ?_)
    refine U6 (c:=(x * (dg b).getD j 0 + o'.getD (i + j) 0 + c) % 1000000000) rfl rfl (by rw [← Int.natCast_mul]; omega) hg3 (by omega) ?_
    intro w4 k4 hg4
    repeat (first | refine wW ?_ | refine A2 rfl rfl ?_ | refine cf5 rfl rfl (by omega) (by omega) (by omega) ?_)
    have hms:=cb4 (m:=x * (dg b).getD j 0) (show i + j < o'.length by omega) hv'
    have hmn : ((x * (dg b).getD j 0 : Nat) : Int) = x * ((dg b).getD j 0 : Nat):=Int.natCast_mul _ _
    refine ⟨by (repeat (first | refine i7 rfl ?_ | exact c7 | refine j1 rfl ?_ | exact b9)),k' - 1,by omega,j + 1,o'.set (i + j) ((x * (dg b).getD j 0 + o'.getD (i + j) 0 + c) % 1000000000),(x * (dg b).getD j 0 + o'.getD (i + j) 0 + c) / 1000000000,by omega,rfl,
     congrArg (Value.int .u64) (by omega),by omega,by simpa using hol',hod'.set (by omega) _,?_,fun q hq=>?_,hg4,k3.trans (k4.mono fun q hq=>by omega)⟩
    ·rw [← Nat.add_assoc,hms,ag3 (by omega)]
     rw [Nat.mul_add,Nat.mul_add,Nat.add_assoc]
     congr 2
     rw [Nat.pow_add,Nat.mul_assoc]
     congr 1
     rw [← Nat.mul_assoc,← Nat.mul_assoc,Nat.mul_comm x]
    rw [S9 (by omega)]
    exact hz' q hq
   repeat (first | refine M5 ?_ | refine wp_exit ?_ | refine Y3 ?_ | refine R7 rfl ?_)
   obtain rfl : j = (dg b).length:=by omega
   rw [List.take_of_length_le (Nat.le_refl _),x8] at hv'
   exact ⟨by (repeat (first | refine i7 rfl ?_ | exact c7 | refine j1 rfl ?_ | exact b9)),o',c,rfl,hcb,hol',hod',hv',hz',hg3,k3⟩
  ·rintro u3 w3 ⟨o',c,h8,hcb,hol',hod',hv',hz',hg3,k3⟩
   refine j7 8 h8 ?_
   clear h8
   repeat (first | refine H8 (i:=i + (dg b).length) rfl rfl (by omega) (by omega) ?_ | refine wW ?_ | refine z6 (by conv=>(lhs; whnf)) (by assumption) ?_ | refine A2 rfl rfl ?_ | refine R3 rfl (ah5 (by omega) (by omega)) ?_)
   refine U6 (c:=c) rfl rfl rfl hg3 (by omega) ?_
   intro w4 k4 hg4
   repeat (first | refine wW ?_ | refine A2 rfl rfl ?_)
   have hns:=b66 o' c (show i + (dg b).length < o'.length by omega)
   rw [hz' _ (Nat.le_refl _),Nat.mul_zero] at hns
   refine ⟨by (repeat (first | refine i7 rfl ?_ | exact c7 | refine j1 rfl ?_ | exact b9)),k - 1,by omega,i + 1,o'.set (i + (dg b).length) c,by omega,rfl,by simp; omega,hod'.set hcb _,?_,fun q hq=>?_,hg4,k3.trans (k4.mono fun q hq=>by omega)⟩
   ·rw [ag3 (by omega),Nat.add_mul,← hv,← hx,Nat.mul_assoc]
    omega
   rw [S9 (by omega)]
   exact hz' q (by omega)
 repeat (first | refine wW ?_ | refine wp_exit ?_)
 obtain rfl : i = (dg a).length:=by omega
 rw [List.take_of_length_le (Nat.le_refl _),x8] at hv
 refine d9 (bh5 (S:=S) (v:=.slice (some ⟨g,0,none⟩) ((dg a).length + (dg b).length) ((dg a).length + (dg b).length)) (l:=o) ?_ hod) rfl ?_
 ·have h4:=Row.of_blk (S:=S) (s:=1) (n:=o.length) (cap:=o.length) hg2 (hS g hgs) (Nat.le_refl _) (by unfold maxLen; omega) (by simp)
  rw [Nat.mul_one,List.take_of_length_le (by simp)] at h4
  rw [← hol]
  exact h4
 rintro v3 w3 ⟨rfl,h3⟩
 repeat refine wW ?_
 refine o5 rfl ⟨?_,?_⟩
 ·exact Keeps.later .refl k2 fun i hi _=>hi
 rw [← hv]; exact h3
theorem dg6 (ha : s5 S 227 .u32 w va a) (hn : n ≤ 1099511627777) :
  Gives prog 212 [va,.int .i64 n] w fun v' w'=>(∃ r,v' = .float .f64 r) ∧ Ext w w':=by
 refine l6 func212 rfl rfl rfl ?_
 repeat (first | refine wW ?_ | refine b8 ?_ | refine x9 rfl rfl ?_)
 try refine n6 ?_
 refine F4 [(5,6),(9,24)] (fun k ρ w'=>∃ (i : Int) (r : Nat),k = (i + 4 - n).toNat ∧ ρ 6 = .int .i64 i ∧ ρ 5 = .float .f64 r ∧ (n : Int) - 4 ≤ i ∧ i ≤ n - 1 ∧ Ext w w') 3 ⟨(n : Int) - 1,0,by omega,rfl,rfl,by omega,by omega,.refl⟩ ?_
 rintro k u w2 ⟨i,r,hk,h6,h5,hi1,hi2,k2⟩
 refine j7 6 h6 (j7 5 h5 ?_)
 clear h6 h5
 repeat (first | refine wW ?_ | refine b8 ?_ | refine aj6 rfl rfl ?_ | refine x9 rfl rfl ?_)
 try refine d8 ?_
 refine j3 rfl ?_ ?_ <;> intro hc
 ·repeat (first | refine wW ?_ | refine y6 ?_ | refine q5 ?_ | refine wp_skip ?_)
  refine bz6 rfl rfl (by simp) ?_
  intro r1 w3 k3
  repeat (first | refine wW ?_ | refine aj6 rfl rfl ?_)
  first | refine d8 ?_ | refine F9 ?_ | refine B5 ?_ | skip
  refine R6 [(5,5),(19,24)] (fun ρ w'=>∃ r2 : Nat,ρ 5 = .float .f64 r2 ∧ Ext w w') rfl ?_ ?_ ?_
  ·intro hi0
   obtain ⟨m,rfl⟩:=Int.eq_ofNat_of_zero_le hi0
   repeat refine wW ?_
   refine d9 (c71 m (ha.to (k2.trans k3))) rfl ?_
   rintro v4 w4 ⟨rfl,k4⟩
   repeat (first | refine cz1 rfl ?_)
   intro r2
   refine bz6 rfl rfl (by simp) ?_
   intro r3 w5 k5
   repeat refine wW ?_
   exact ⟨by (repeat (first | refine i7 rfl ?_ | exact c7 | refine j1 rfl ?_ | exact b9)),r3,rfl,((k2.trans k3).trans k4).trans k5⟩
  ·intro hi0
   repeat (first | refine M5 ?_ | refine wp_skip ?_)
   exact ⟨by (repeat (first | refine i7 rfl ?_ | exact c7 | refine j1 rfl ?_ | exact b9)),r1,rfl,k2.trans k3⟩
  rintro u4 w4 ⟨r2,h5,k4⟩
  refine j7 5 h5 ?_
  clear h5
  repeat (first | refine wW ?_ | refine x9 rfl rfl ?_)
  exact ⟨by (repeat (first | refine i7 rfl ?_ | exact c7 | refine j1 rfl ?_ | exact b9)),k - 1,by omega,i - 1,r2,by omega,rfl,rfl,by omega,by omega,k4⟩
 repeat (first | refine wW ?_ | refine wp_exit ?_)
 exact o5 rfl ⟨⟨r,rfl⟩,k2⟩
theorem bt6 {r d : Nat} (h : r < b) (hd : d < 1000000000) : dl (d + 1000000000 * r) ≤ dl b + 1:=by
 refine G9 ?_
 rw [Nat.pow_succ]
 have:=A6 b
 omega
theorem da0 (hg : g ≤ 4294967295) : dl (b * g) ≤ dl b + 2:=by
 refine G9 ?_
 rw [Nat.pow_add]
 have:=A6 b
 exact Nat.mul_lt_mul_of_lt_of_le this (by omega) (by omega)
theorem U5 (h : m < l.length) : r9 (l.drop m) = l.getD m 0 + 1000000000 * r9 (l.drop (m + 1)):=by
 rw [List.drop_eq_getElem_cons h,r9,List.getD_eq_getElem?_getD,List.getElem?_eq_getElem h]
 rfl
theorem ar7 {d : Nat} : (l.set m d).drop (m + 1) = l.drop (m + 1):=by
 rw [List.drop_set_of_lt (by omega)]
theorem cm1 (hS : Up S w) (ha : s5 S 227 .u32 w va a) (hb : s5 S 227 .u32 w vb b) (hla : dl a ≤ 1099511627000) (hlb : dl b ≤ 1099511627000) (hb0 : 0 < b) :
  Gives prog 193 [va,vb] w fun v' w'=>∃ vq vr,v' = .tuple #[vq,vr] ∧ Ext w w' ∧ s5 S 227 .u32 w' vq (a / b) ∧ s5 S 227 .u32 w' vr (a % b):=by
 have hla' : (dg a).length ≤ 1099511627000:=hla
 have hlb' : (dg b).length ≤ 1099511627000:=hlb
 refine l6 func193 rfl rfl rfl ?_
 repeat (first | refine wW ?_ | refine b8 ?_)
 refine d9 (af8 ha hb) rfl ?_
 rintro v1 w1 ⟨k1,c,rfl,hc⟩
 repeat (first | refine wW ?_ | refine N4 rfl rfl ?_)
 try refine d8 ?_
 refine j3 rfl ?_ ?_ <;> intro hcl
 ·repeat (first | refine wW ?_ | refine r4 ?_)
  have hab : a < b:=hc.1.1 hcl
  refine au4 rfl (by conv=>(lhs; whnf)) (by conv=>(lhs; whnf)) ⟨_,_,rfl,k1,?_,?_⟩
  ·rw [Nat.div_eq_of_lt hab]; exact Row.nil
  rw [Nat.mod_eq_of_lt hab]; exact ha.to k1
 ·repeat (first | refine wW ?_ | refine wp_skip ?_ | refine z6 (by conv=>(lhs; whnf)) (by assumption) ?_)
  refine bb1 (l := (dg a).length) (c := (dg a).length) rfl rfl rfl rfl (Nat.le_refl _) (by omega) (by unfold maxLen; omega) ?_
  intro w2 q k2 hg hgs
  have hg : Blk w2 q 227 ((List.replicate (dg a).length 0).map fun d : Nat=>.int .u32 d):=by
   simpa [toList_madeCells_one,Value.cells,List.map_replicate] using hg
  have k12 := k1.trans k2
  have hq := hg.lt
  have hs1:=k1.size
  have hs12 := k12.size
  have hS2 : Up (fun k=>S k ∧ k ≠ q) w2:=fun i hi=>⟨hS i (by omega),by omega⟩
  have ha2:=(ha.mono (S':=fun k=>S k ∧ k ≠ q) fun i hi hs=>⟨hs,by omega⟩).to k12
  have hb2:=(hb.mono (S':=fun k=>S k ∧ k ≠ q) fun i hi hs=>⟨hs,by omega⟩).to k12
  repeat (first | refine wW ?_ | refine b8 ?_ | refine z6 (by conv => (lhs; whnf)) (by assumption) ?_ | refine x9 rfl rfl ?_)
  try refine n6 ?_
  refine F4 [(7,10),(22,77)] (fun k ρ w'=>∃ (o : List Nat) (r : Nat) (vr : Value),ρ 8 = .int .i64 ((k : Int) - 1) ∧ ρ 7 = vr ∧ r < b ∧ k ≤ o.length ∧ o.length = (dg a).length ∧ Digs o ∧ (∀ j,j < k → o.getD j 0 = 0) ∧
    r9 ((dg a).drop k) = r9 (o.drop k) * b + r ∧ Blk w' q 227 (o.map fun d : Nat=>.int .u32 d) ∧ s5 (fun k=>S k ∧ k ≠ q) 227 .u32 w' vr r ∧ Keeps (fun k=>k ≠ q) w2 w') (dg a).length
   ⟨List.replicate (dg a).length 0,0,_,rfl,rfl,hb0,by simp,by simp,fun x hx=>by rw [List.eq_of_mem_replicate hx]; omega,fun j _=>by simp [List.getD_eq_getElem?_getD,List.getElem?_replicate]; split <;> rfl,by simp [r9],hg,Row.nil,.refl⟩ ?_
  rintro k u w3 ⟨o,r,vr,h8,h7,hr,hko,hol,hod,hz,hv,hg3,hvr,k3⟩
  refine j7 8 h8 (j7 7 h7 ?_)
  clear h8 h7 hg
  have hb3 : s5 (fun k=>S k ∧ k ≠ q) 227 .u32 w3 vb b:=hb2.keep (k3.mono fun i hi=>hi.2)
  have ha3 : s5 (fun k=>S k ∧ k ≠ q) 227 .u32 w3 va a:=ha2.keep (k3.mono fun i hi=>hi.2)
  have hS3 : Up (fun k=>S k ∧ k ≠ q) w3:=fun i hi=>hS2 i (by have:=k3.size; omega)
  repeat (first | refine wW ?_ | refine b8 ?_ | refine aj6 rfl rfl ?_)
  try refine d8 ?_
  refine j3 rfl ?_ ?_ <;> intro hk
  ·obtain ⟨m,rfl⟩ : ∃ m,k = m + 1:=⟨k - 1,by omega⟩
   repeat (first | refine y8 (i:=m) (by conv=>(lhs; whnf)) rfl (by omega) ha3 (by omega) ?_ | refine r6 rfl ha3 (by omega) ?_ | refine wW ?_ | refine y6 ?_ | refine q5 ?_ | refine wp_skip ?_)
   have hda:=K7 a m
   have hdr:=U5 (show m < (dg a).length by omega)
   rw [hv] at hdr
   obtain ⟨d,hd⟩ : ∃ d,d = (dg a).getD m 0:=⟨_,rfl⟩
   rw [← hd] at hda hdr ⊢
   have hdo:=U5 (show m < o.length by omega)
   have hdl:=bt6 hr hda
   have hrb:=I6 (Nat.le_of_lt hr)
   refine d9 (cy0 hS3 hvr (by omega) hda) rfl ?_
   rintro v4 w4 ⟨k4,h4⟩
   repeat (first | refine wW ?_ | refine b8 ?_)
   refine d9 (af8 h4 (hb3.to k4)) rfl ?_
   rintro v5 w5 ⟨k5,c5,rfl,hc5⟩
   replace h4:=h4.to k5
   replace k4:=k4.trans k5
   repeat (first | refine wW ?_ | refine N4 rfl rfl ?_)
   try refine d8 ?_
   refine j3 rfl ?_ ?_ <;> intro hlt
   ·repeat (first | refine wW ?_ | refine wp_exit ?_ | refine x9 rfl rfl ?_)
    refine ⟨by (repeat (first | refine i7 rfl ?_ | exact c7 | refine j1 rfl ?_ | exact b9)),m,by omega,o,d + 1000000000 * r,v4,congrArg (Value.int .i64) (by omega),rfl,hc5.1.1 hlt,by omega,hol,hod,fun j hj=>hz j (by omega),?_,hg3.to k4,h4,k3.trans (.of k4)⟩
    rw [hdr,hdo,hz m (by omega),Nat.zero_add,Nat.mul_add,Nat.mul_assoc]
    omega
   ·have hge : b ≤ d + 1000000000 * r:=by have:=hc5.1; omega
    have hlt9 : d + 1000000000 * r < 1000000000 * b:=by omega
    obtain ⟨y,hy⟩ : ∃ y,y = d + 1000000000 * r:=⟨_,rfl⟩
    rw [← hy] at hge hlt9 h4 hdl
    repeat (first | refine wW ?_ | refine wp_skip ?_ | refine z6 (by conv=>(lhs; whnf)) (by assumption) ?_ | refine A2 rfl rfl ?_)
    refine d9 (dg6 (n:=(dg b).length + 1) h4 (by omega)) (cp2 rfl (congrArg (Value.int .i64) (by omega))) ?_
    rintro v6 w6 ⟨⟨f6,rfl⟩,k6⟩
    repeat (first | refine q8 ?_ | refine z6 (by conv=>(lhs; whnf)) (by assumption) ?_ | refine A2 rfl rfl ?_)
    refine d9 (dg6 (n:=(dg b).length + 1) (hb3.to (k4.trans k6)) (by omega)) (cp2 rfl (congrArg (Value.int .i64) (by omega))) ?_
    rintro v7 w7 ⟨⟨f7,rfl⟩,k7⟩
    skip
    refine bz6 rfl rfl (by simp) ?_
    intro f8 w8 k8
    skip
    refine d37 rfl rfl ?_
    intro f9 w9 k9
    skip
    refine d47 rfl rfl ?_
    intro f10 w10 k10
    skip
    refine dp5 rfl ?_
    intro g w11 hg11 k11
    repeat refine wW ?_
    have k4b:=(((((k4.trans k6).trans k7).trans k8).trans k9).trans k10).trans k11
    replace h4:=h4.to (((((k6.trans k7).trans k8).trans k9).trans k10).trans k11)
    refine d9 (dp8 (c:=g) (hS3.to k4b) (hb3.to k4b) (by omega) hg11) rfl ?_
    rintro v12 w12 ⟨k12b,h12⟩
    replace h4:=h4.to k12b
    replace k4b:=k4b.trans k12b
    repeat refine wW ?_
    try refine n6 ?_
    refine F4 [(9,10),(53,61)] (fun k ρ w'=>∃ vp : Value,ρ 9 = .int .u32 k ∧ ρ 10 = vp ∧ k ≤ 4294967295 ∧ s5 (fun k=>S k ∧ k ≠ q) 227 .u32 w' vp (b * k) ∧ Ext w12 w') g
     ⟨v12,rfl,rfl,hg11,h12,.refl⟩ ?_
    rintro g2 u2 w13 ⟨vp,h9,h10,hg2,hp,k13⟩
    refine j7 9 h9 (j7 10 h10 ?_)
    clear h9 h10 h12
    have h4b:=h4.to k13
    repeat (first | refine wW ?_ | refine b8 ?_)
    refine d9 (af8 hp h4b) rfl ?_
    rintro v14 w14 ⟨k14,c14,rfl,hc14⟩
    repeat (first | refine wW ?_ | refine Y1 rfl rfl ?_)
    try refine d8 ?_
    refine j3 rfl ?_ ?_ <;> intro hgt
    ·have hgt2:=hc14.2.1 hgt
     obtain ⟨g3,rfl⟩ : ∃ g3,g2 = g3 + 1:=by
      have h0 : g2 ≠ 0:=by
       rintro rfl
       omega
      exact ⟨g2 - 1,by omega⟩
     repeat (first | refine d75 rfl rfl (by omega) (by omega) ?_ | refine wW ?_ | refine q5 ?_ | refine wp_skip ?_)
     have hbl : b ≤ b * (g3 + 1):=Nat.le_mul_of_pos_right _ (by omega)
     have hdm:=da0 (b:=b) hg2
     refine d9 (bl1 ((hS3.to k4b).to (k13.trans k14)) (hp.to k14) (hb3.to (k4b.trans (k13.trans k14))) (by omega) hbl) rfl ?_
     rintro v15 w15 ⟨k15,h15⟩
     repeat (first | refine wW ?_ | refine af2 ?_)
     refine ⟨by (repeat (first | refine i7 rfl ?_ | exact c7 | refine j1 rfl ?_ | exact b9)),g3,by omega,v15,congrArg (Value.int .u32) (by omega),rfl,by omega,?_,(k13.trans k14).trans k15⟩
     have e : b * (g3 + 1) - b = b * g3:=by rw [Nat.mul_succ]; omega
     rw [← e]; exact h15
    ·have hle : b * g2 ≤ y:=by have:=hc14.2; omega
     repeat (first | refine wW ?_ | refine wp_exit ?_)
     refine d9 (bl1 ((hS3.to k4b).to (k13.trans k14)) (h4b.to k14) (hp.to k14) (by omega) hle) rfl ?_
     rintro v15 w15 ⟨k15,h15⟩
     have k4c:=((k4b.trans k13).trans k14).trans k15
     repeat refine wW ?_
     try refine n6 ?_
     refine F4 [(7,7),(9,9),(65,73)] (fun k ρ w'=>∃ (g : Nat) (vp : Value),ρ 9 = .int .u32 g ∧ ρ 7 = vp ∧ y = b * g + k ∧ s5 (fun k=>S k ∧ k ≠ q) 227 .u32 w' vp k ∧ Ext w15 w') (y - b * g2)
      ⟨g2,v15,rfl,rfl,by omega,h15,.refl⟩ ?_
     rintro r3 u3 w16 ⟨g4,vp4,h9,h7,hyr,hr3,k16⟩
     refine j7 9 h9 (j7 7 h7 ?_)
     clear h9 h7 h15
     have k4d:=k4c.trans k16
     have hr3d : dl r3 ≤ dl b + 1:=Nat.le_trans (I6 (by omega)) hdl
     repeat (first | refine wW ?_ | refine b8 ?_)
     refine d9 (af8 hr3 (hb3.to k4d)) rfl ?_
     rintro v17 w17 ⟨k17,c17,rfl,hc17⟩
     have hg9 : b * g4 < b * 1000000000:=by omega
     replace hg9:=Nat.lt_of_mul_lt_mul_left hg9
     repeat (first | refine wW ?_ | refine aj6 rfl rfl ?_)
     try refine d8 ?_
     refine j3 rfl ?_ ?_ <;> intro hge2
     ·have hge3 : b ≤ r3:=by have:=hc17.1; omega
      repeat (first | refine dy5 rfl rfl (by omega) (by omega) ?_ | refine wW ?_ | refine q5 ?_ | refine wp_skip ?_)
      refine d9 (bl1 ((hS3.to k4d).to k17) (hr3.to k17) (hb3.to (k4d.trans k17)) (by omega) hge3) rfl ?_
      rintro v18 w18 ⟨k18,h18⟩
      repeat (first | refine wW ?_ | refine af2 ?_)
      refine ⟨by (repeat (first | refine i7 rfl ?_ | exact c7 | refine j1 rfl ?_ | exact b9)),r3 - b,by omega,g4 + 1,v18,rfl,rfl,by rw [Nat.mul_succ]; omega,h18,(k16.trans k17).trans k18⟩
     ·have hlt3 : r3 < b:=by have:=hc17.1; omega
      replace k4d:=k4d.trans k17
      repeat (first | refine H8 (i:=m) rfl rfl (by omega) (by omega) ?_ | refine wW ?_ | refine wp_exit ?_)
      refine U6 (c:=g4) rfl rfl rfl (hg3.to k4d) (by omega) ?_
      intro w19 k19 hg19
      repeat (first | refine wW ?_ | refine x9 rfl rfl ?_)
      refine ⟨by (repeat (first | refine i7 rfl ?_ | exact c7 | refine j1 rfl ?_ | exact b9)),m,by omega,o.set m g4,r3,vp4,congrArg (Value.int .i64) (by omega),rfl,hlt3,by rw [List.length_set]; omega,by rw [List.length_set]; omega,hod.set hg9 _,fun j hj=>by rw [S9 (by omega)]; exact hz j (by omega),?_,hg19,(hr3.to k17).keep (k19.mono fun i hi=>hi.2),(k3.trans (.of k4d)).trans k19⟩
      have hds:=U5 (l:=o.set m g4) (m:=m) (by rw [List.length_set]; omega)
      rw [ac5 (by omega), ar7] at hds
      rw [hdr,hds,Nat.mul_add,Nat.add_mul,Nat.mul_assoc,Nat.mul_comm g4]
      omega
  ·obtain rfl : k = 0:=by omega
   rw [List.drop_zero,List.drop_zero,x8] at hv
   repeat (first | refine wW ?_ | refine wp_exit ?_)
   refine d9 (bh5 (S:=S) (v:=.slice (some ⟨q,0,none⟩) (dg a).length (dg a).length) (l:=o) ?_ hod) rfl ?_
   ·have h4:=Row.of_blk (S:=S) (s:=1) (n:=o.length) (cap:=o.length) hg3 (hS q (by omega)) (Nat.le_refl _) (by unfold maxLen; omega) (by simp)
    rw [Nat.mul_one,List.take_of_length_le (by simp)] at h4
    rw [← hol]
    exact h4
   ·rintro v4 w4 ⟨rfl,h4⟩
    have hdiv : a / b = r9 o:=by
     rw [hv,Nat.add_comm,Nat.add_mul_div_right _ _ hb0,Nat.div_eq_of_lt hr,Nat.zero_add]
    have hmod : a % b = r:=by
     rw [hv,Nat.mul_comm,Nat.mul_add_mod,Nat.mod_eq_of_lt hr]
    repeat refine wW ?_
    refine au4 rfl (by conv=>(lhs; whnf)) (by conv=>(lhs; whnf)) ⟨_,_,rfl,?_,?_,?_⟩
    ·exact Keeps.later k12 k3 fun i hi _=>by omega
    ·rw [hdiv]; exact h4
    rw [hmod]; exact hvr.mono fun i _ hi=>hi.1
theorem du5 (hS : Up S w) (ha : s5 S 227 .u32 w va a) (hb : s5 S 227 .u32 w vb b) (hla : dl a ≤ 1099511627000) (hlb : dl b ≤ 1099511627000) :
  Gives prog 174 [va,vb] w fun v' w'=>Ext w w' ∧ s5 S 227 .u32 w' v' (Nat.gcd a b):=by
 refine l6 func174 rfl rfl rfl ?_
 repeat refine wW ?_
 try refine n6 ?_
 refine F4 [(0,1),(5,17)] (fun k ρ w'=>∃ (x : Nat) (vx vy : Value),ρ 0 = vx ∧ ρ 1 = vy ∧ s5 S 227 .u32 w' vx x ∧ s5 S 227 .u32 w' vy k ∧ Nat.gcd x k = Nat.gcd a b ∧ dl x ≤ 1099511627000 ∧ dl k ≤ 1099511627000 ∧ Ext w w') b
  ⟨a,va,vb,rfl,rfl,ha,hb,rfl,hla,hlb,.refl⟩ ?_
 rintro y u w2 ⟨x,vx,vy,h0,h1,hx,hy,hg,hlx,hly,k2⟩
 refine j7 0 h0 (j7 1 h1 ?_)
 clear h0 h1
 repeat (first | refine wW ?_ | refine b8 ?_ | refine z6 (by conv=>(lhs; whnf)) (by assumption) ?_ | refine Y1 rfl rfl ?_)
 try refine d8 ?_
 refine j3 rfl ?_ ?_ <;> intro hc
 ·have hy0 : 0 < y:=by
   rcases Nat.eq_zero_or_pos y with rfl | h
   ·rw [ak1] at hc; simp at hc
   exact h
  repeat (first | refine wW ?_ | refine q5 ?_ | refine wp_skip ?_)
  refine d9 (cm1 (hS.to k2) hx hy hlx hly hy0) rfl ?_
  rintro v3 w3 ⟨vq,vr,rfl,k3,hq,hr⟩
  have hml:=I6 (Nat.le_of_lt (Nat.mod_lt x hy0))
  repeat (first | refine wW ?_ | refine af2 ?_ | refine B4 rfl rfl ?_)
  refine ⟨by (repeat (first | refine i7 rfl ?_ | exact c7 | refine j1 rfl ?_ | exact b9)),x % y,Nat.mod_lt x hy0,y,vy,vr,rfl,rfl,hy.to k3,hr,?_,hly,by omega,k2.trans k3⟩
  rw [Nat.gcd_comm,← Nat.gcd_rec,Nat.gcd_comm,hg]
 obtain rfl : y = 0:=J3.1 (by unfold dl; omega)
 rw [Nat.gcd_zero_right] at hg
 rw [← hg]
 repeat (first | refine wW ?_ | refine wp_exit ?_)
 exact o5 rfl ⟨k2,hx⟩
@[irreducible] def Big : Nat:=2 ^ 100000
theorem by7 : Big = 2 ^ 100000:=by unfold Big; rfl
theorem bf1 : 1000000000 ^ 3344 ≤ Big:=by
 unfold Big
 exact Nat.le_of_ble_eq_true (by kernel_rfl)
theorem b72 : Big < 1000000000 ^ 3345:=by
 unfold Big
 exact Nat.le_of_ble_eq_true (by kernel_rfl)
@[irreducible] def bi8 (p s k : Nat) : Prop:=∃ e,e = 100000 ∧ p * s ^ k = 2 ^ e
theorem cu2 (k : Nat) : ∃ e,e = k ∧ 1 * 2 ^ k = 2 ^ e:=⟨k,rfl,Nat.one_mul _⟩
theorem b39 : bi8 1 2 100000:=by unfold bi8; exact cu2 100000
theorem d10 {p k : Nat} (h : bi8 p s k) : p * s ^ k = Big:=by
 unfold bi8 at h
 obtain ⟨e,rfl,h⟩:=h
 exact h.trans by7.symm
theorem dc0 {p k : Nat} (h : p * s ^ k = Big) : bi8 p s k:=by
 unfold bi8
 exact ⟨100000,rfl,h.trans by7⟩
theorem dx0 {x : Nat} (h : 1000000000 ^ x ≤ Big) : 0 < Big:=Nat.lt_of_lt_of_le (Nat.pow_pos (by decide)) h
theorem dn2 : 0 < Big:=@dx0 3344 bf1
theorem R8 {i j : Nat} (h : i ≤ j) : 1000000000 ^ i ≤ 1000000000 ^ j:=Nat.pow_le_pow_right (by decide) h
theorem c32 (p s k : Nat) : p * s ^ k = (if k % 2 = 1 then p * s else p) * (s * s) ^ (k / 2):=by
 conv=>lhs; rw [← Nat.div_add_mod k 2,Nat.pow_add,Nat.pow_mul]
 split
 ·rename_i h; rw [h,Nat.pow_one,Nat.pow_two,Nat.mul_comm ((s * s) ^ (k / 2)) s,← Nat.mul_assoc]
 rename_i h
 have h : k % 2 = 0:=by omega
 rw [h,Nat.pow_zero,Nat.mul_one,Nat.pow_two]
theorem cv2 (hS : Up S w) (ha : s5 S 227 .u32 w va a) :
  Gives prog 196 [va] w fun v' w'=>v' = .bool (tst (a < Big)) ∧ Ext w w':=by
 refine l6 func196 rfl rfl rfl ?_
 repeat (first | refine wW ?_ | refine b8 ?_ | refine z6 (by conv=>(lhs; whnf)) (by assumption) ?_ | refine b60 rfl rfl ?_)
 try refine d8 ?_
 refine j3 rfl ?_ ?_ <;> intro hc
 ·repeat (first | refine wW ?_ | refine r4 ?_ | refine z6 (by conv=>(lhs; whnf)) (by assumption) ?_ | refine N4 rfl rfl ?_)
  refine o5 rfl ⟨congrArg Value.bool ?_,.refl⟩
  by_cases h : (dg a).length < 3345
  ·have h2 : dl a ≤ 3344:=by unfold dl; omega
   have h4 : a < Big:=Nat.lt_of_lt_of_le (A6 a) (Nat.le_trans (R8 h2) bf1)
   rw [j6 (by omega),j6 h4]
  have h1:=X4 (ah3 a) (by rintro h0; rw [h0] at h; exact h (by decide))
  rw [x8] at h1
  have h2 : 3345 ≤ (dg a).length - 1:=by omega
  have h4 : ¬ a < Big:=Nat.not_lt.2 (Nat.le_of_lt (Nat.lt_of_lt_of_le b72 (Nat.le_trans (@R8 3345 ((dg a).length - 1) h2) h1)))
  rw [j2 (by omega),j2 h4]
 ·repeat (first | refine wW ?_ | refine wp_skip ?_)
  refine d9 (c96 (S:=S) hS) rfl ?_
  rintro v1 w1 ⟨k1,h1⟩
  skip
  refine ab4 (by conv=>(lhs; whnf)) rfl ?_
  intro w2 g k2 hb hg
  have h2 : s5 S 227 .u32 w2 (.slice (some ⟨g,0,none⟩) 1 1) 2:=Row.of_blk (s:=1) (n:=1) (cap:=1) hb (hS g (by have:=k1.size; omega)) (Nat.le_refl _) (by unfold maxLen; omega) rfl
  repeat (first | refine wW ?_ | refine b8 ?_)
  have hbd : dl Big ≤ 3345:=G9 b72
  try refine n6 ?_
  refine F4 [(4,6),(17,29)] (fun k ρ w'=>∃ (p s : Nat) (vp vs : Value),ρ 6 = .int .i64 k ∧ ρ 4 = vp ∧ ρ 5 = vs ∧ k ≤ 100000 ∧ bi8 p s k ∧ 0 < s ∧ s5 S 227 .u32 w' vp p ∧ s5 S 227 .u32 w' vs s ∧ Ext w w') 100000 ?_ ?_
  ·exact ⟨1,2,v1,.slice (some ⟨g,0,none⟩) 1 1,rfl,rfl,rfl,Nat.le_refl _,b39,by decide,h1.to k2,h2,k1.trans k2⟩
  rintro k u w3 ⟨p,s,vp,vs,h6,h4,h5,hk,he,hs0,hp,hs,k3⟩
  refine j7 6 h6 (j7 4 h4 (j7 5 h5 ?_))
  clear h6 h4 h5 h1 h2
  replace he:=d10 he
  have hB0:=dn2
  have hpB : p ≤ Big:=by rw [← he]; exact Nat.le_mul_of_pos_right _ (Nat.pow_pos hs0)
  have hpl:=I6 hpB
  repeat (first | refine wW ?_ | refine b8 ?_ | refine Y1 rfl rfl ?_)
  try refine d8 ?_
  refine j3 rfl ?_ ?_ <;> intro hk0
  ·have hsB : s ≤ Big:=by
    have h1 : 0 < p:=by
     rcases Nat.eq_zero_or_pos p with rfl | h
     ·rw [Nat.zero_mul] at he; omega
     exact h
    rw [← he]
    exact Nat.le_trans (Nat.le_self_pow (by omega) s) (Nat.le_mul_of_pos_left _ h1)
   have hsl:=I6 hsB
   have hh:=c32 p s k
   rw [he] at hh
   repeat (first | refine wW ?_ | refine b8 ?_ | refine y6 ?_ | refine q5 ?_ | refine wp_skip ?_ | refine ad2 rfl rfl ?_ | refine aq0 rfl rfl (by omega) (by omega) ?_)
   first | refine d8 ?_ | refine F9 ?_ | refine B5 ?_ | skip
   refine R6 [(4,4),(24,26)] (fun ρ w'=>∃ vp',ρ 4 = vp' ∧ s5 S 227 .u32 w' vp' (if k % 2 = 1 then p * s else p) ∧ Ext w3 w') rfl ?_ ?_ ?_
   ·intro h2
    repeat refine wW ?_
    refine d9 (ap2 (hS.to k3) hp hs (by omega) (by omega)) rfl ?_
    rintro v4 w4 ⟨k4,h4⟩
    repeat refine wW ?_
    exact ⟨by (repeat (first | refine i7 rfl ?_ | exact c7 | refine j1 rfl ?_ | exact b9)),v4,rfl,by rw [if_pos (by omega)]; exact h4,k4⟩
   ·intro h2
    repeat (first | refine M5 ?_ | refine wp_skip ?_)
    exact ⟨by (repeat (first | refine i7 rfl ?_ | exact c7 | refine j1 rfl ?_ | exact b9)),vp,rfl,by rw [if_neg (by omega)]; exact hp,.refl⟩
   ·rintro u4 w4 ⟨vp',h4,hp',k4⟩
    refine j7 4 h4 ?_
    clear h4
    repeat refine wW ?_
    refine d9 (ap2 (hS.to (k3.trans k4)) (hs.to k4) (hs.to k4) (by omega) (by omega)) rfl ?_
    rintro v5 w5 ⟨k5,h5⟩
    repeat (first | refine wW ?_ | refine ao9 rfl rfl (by omega) (by omega) (by omega) ?_)
    exact ⟨by (repeat (first | refine i7 rfl ?_ | exact c7 | refine j1 rfl ?_ | exact b9)),k / 2,by omega,_,_,vp',v5,congrArg (Value.int .i64) (by omega),rfl,rfl,by omega,dc0 hh.symm,Nat.mul_pos hs0 hs0,hp'.to k5,h5,(k3.trans k4).trans k5⟩
  obtain rfl : k = 0:=by omega
  obtain rfl : p = Big:=by rw [← he,Nat.pow_zero,Nat.mul_one]
  repeat (first | refine wW ?_ | refine wp_exit ?_)
  refine d9 (af8 (ha.to k3) hp) rfl ?_
  rintro v4 w4 ⟨k4,c,rfl,hc4⟩
  repeat (first | refine wW ?_ | refine N4 rfl rfl ?_)
  refine o5 rfl ⟨congrArg Value.bool ?_,k3.trans k4⟩
  by_cases h : a < Big
  ·rw [j6 h,j6 (hc4.1.2 h)]
  rw [j2 h,j2 fun h'=>h (hc4.1.1 h')]
theorem R0 {q : Prop} (h : p ↔ q) : tst p = tst q:=by rw [propext h]
def IntV (S : Nat → Prop) (T : TypeId) (k : IntKind) (w : World) (v : Value) (z : Int) : Prop:=∃ m,v = .agg #[.bool (tst (z < 0)),m] ∧ s5 S T k w m z.natAbs
theorem IntV.keep {z : Int} (h : IntV S T kd w v z) (k : Keeps S w w') : IntV S T kd w' v z:=let ⟨m,h1,h2⟩:=h; ⟨m,h1,h2.keep k⟩
theorem IntV.to {z : Int} (h : IntV S T kd w v z) (k : Ext w w') : IntV S T kd w' v z:=let ⟨m,h1,h2⟩:=h; ⟨m,h1,h2.to k⟩
theorem IntV.mono {S' : Nat → Prop} {z : Int} (h : IntV S T kd w v z) (hs : ∀ k,k < w.heap.size → S k → S' k) : IntV S' T kd w v z:=let ⟨m,h1,h2⟩:=h; ⟨m,h1,h2.mono hs⟩
theorem dt4 {a b : Value} (h1 : a.oneCell' = true) (h2 : b.oneCell' = true) : ∀ v ∈ [a,b],v.oneCell' = true:=fun v hv=>by
 simp only [List.mem_cons,List.not_mem_nil,or_false] at hv
 rcases hv with rfl | rfl <;> assumption
theorem Row.past (h : Row S T s w v n cs) (k1 : Ext w w1) (k2 : Wrt g w1 w2) (hg : w.heap.size ≤ g) : Row S T s w2 v n cs:=
 (((h.mono (S':=fun k=>S k ∧ k ≠ g) fun i hi hs=>⟨hs,by omega⟩).to k1).keep (k2.mono fun i hi=>hi.2)).mono fun i _ hi=>hi.1
theorem Ext.past (k1 : Ext w w1) (k2 : Wrt g w1 w2) (hg : w.heap.size ≤ g) : Ext w w2:=Keeps.later k1 k2 fun i hi _=>by omega
theorem Keeps.past (k1 : Keeps All w w1) (k2 : Wrt g w1 w2) (hg : w.heap.size ≤ g) : Ext w w2:=Ext.past k1 k2 hg
theorem d93 {a b : Value} (h1 : a.oneCell' = true) (h2 : b.oneCell' = true) :
  Instr.fill (fun i : Nat=>([(0,1),(1,1)][i]? : Option (Nat × Nat))) [z0,z1].toArray [(0,a),(1,b)] = some [a,b].toArray:=
 bh7 rfl h1 (by simp) (bh7 rfl h2 (by simp) ar3)
theorem an1 {Q : G8} {all : List Oper} {d : Tmp} [ti : TyI P T 2 bb (.agg #[z0,z1]) true] [st : StcT P T [(0,1),(1,1)]] {a b : Value} (hx : ev ρ x = a) (hy : ev ρ y = b) (h1 : a.oneCell' = true) (h2 : b.oneCell' = true)
  (h : WpR P n all Q rest (upd ρ d (.agg #[a,b])) w) : WpR P n all Q (⟨some d,.build T #[(0,x),(1,y)],ty,pos,aft,none⟩ :: rest) ρ w:=
 a48 (parts:=[(0,x),(1,y)]) (zs:=[z0,z1]) (cs:=[a,b]) (vs:=[(0,a),(1,b)]) rfl (by rw [← hx,← hy]; rfl) (d93 h1 h2) h
theorem A5 {Q : G8} {all : List Oper} [ti : TyI P t 2 bb z agg] {a b c d : Value}
  (hx : ev ρ x = .pointer (some ⟨g,0,none⟩)) (hy : ev ρ y = .agg #[a,b]) (hb : Blk w g T [c,d]) (h1 : a.oneCell' = true) (h2 : b.oneCell' = true)
  (h : ∀ w',Wrt g w w' → Blk w' g T [a,b] → WpR P n all Q rest ρ w') : WpR P n all Q (⟨none,.store t x y,ty,pos,aft,none⟩ :: rest) ρ w:=
 F0 (us:=[a,b]) hx hy rfl rfl hb rfl (dt4 h1 h2) h
theorem Z6 {vm : Value} (z : Int) (hm : s5 S 227 .u32 w vm n) (ha : z.natAbs = n) (hp : z < 0 ↔ p ∧ 0 < n) :
  Gives prog 165 [.bool (tst p),vm] w fun v' w'=>Ext w w' ∧ IntV S 227 .u32 w' v' z:=by
 subst ha
 refine l6 func165 rfl rfl rfl ?_
 repeat refine wW ?_
 refine q9 (cs:=[.bool false,.slice none 0 0]) rfl ?_
 intro w1 g k1 hg hgs
 have hm0:=hm
 replace hm:=hm.to k1
 have hdl : 0 < (dg z.natAbs).length ↔ 0 < z.natAbs:=by
  have:=@J3 z.natAbs
  unfold dl at this
  omega
 repeat refine wW ?_
 refine D6 rfl rfl ?_ ?_ <;> intro hc
 ·repeat (first | refine q8 ?_ | refine z6 (by conv=>(lhs; whnf)) (by assumption) ?_ | refine q6 rfl rfl ?_ | refine s4 rfl ?_ | refine Y1 rfl rfl ?_)
  refine an1 (by conv=>(lhs; whnf)) (by conv=>(lhs; whnf)) rfl hm.one ?_
  refine A5 rfl (by conv=>(lhs; whnf)) hg rfl hm.one ?_
  intro w2 k2 hg2
  repeat refine wW ?_
  refine R9 rfl (n8 hg2 rfl) ⟨?_,vm,?_,?_⟩
  ·exact k1.past k2 hgs
  ·rw [R0 (show (0 : Int) < ((dg z.natAbs).length : Nat) ↔ z < 0 by rw [hp,← hdl]; exact ⟨fun h=>⟨hc,by omega⟩,fun h=>by omega⟩)]
  exact hm0.past k1 k2 hgs
 repeat (first | refine q8 ?_ | refine s9 rfl rfl rfl ?_ | refine p9 rfl ?_)
 refine an1 (by conv=>(lhs; whnf)) (by conv=>(lhs; whnf)) rfl hm.one ?_
 refine A5 rfl (by conv=>(lhs; whnf)) hg rfl hm.one ?_
 intro w2 k2 hg2
 repeat refine wW ?_
 refine R9 rfl (n8 hg2 rfl) ⟨?_,vm,?_,?_⟩
 ·exact k1.past k2 hgs
 ·rw [j2 (show ¬ z < 0 from fun h=>hc (hp.1 h).1)]
 exact hm0.past k1 k2 hgs
theorem bx6 {n : Nat} : (0 : Int) < ((dg n).length : Nat) ↔ 0 < n:=by
 have:=@J3 n
 unfold dl at this
 omega
theorem dd7 {z : Int} (h : IntV S 227 .u32 w v z) :
  Gives prog 131 [v] w fun v' w'=>v' = .int .i64 z.sign ∧ Ext w w':=by
 obtain ⟨m,rfl,hm⟩:=h
 refine l6 func131 rfl rfl rfl ?_
 repeat refine wW ?_
 refine s6 (cs:=[.bool (tst (z < 0)),m]) rfl ?_
 intro w1 g k1 hg hgs
 replace hm:=hm.to k1
 repeat (first | refine d7 rfl hg rfl ?_ | refine wW ?_ | refine y6 ?_ | refine q5 ?_ | refine j4 rfl ?_)
 try refine d8 ?_
 refine j3 rfl ?_ ?_ <;> intro hc
 ·repeat (first | refine wW ?_ | refine r4 ?_ | refine N7 ?_)
  exact Z2 rfl (by conv=>(lhs; whnf)) ⟨congrArg (Value.int .i64) (by rw [Int.sign_eq_neg_one_of_neg hc]),k1⟩
 ·repeat (first | refine d7 rfl hg rfl ?_ | refine wW ?_ | refine z6 (by conv=>(lhs; whnf)) (by assumption) ?_ | refine Y1 rfl rfl ?_ | refine j4 rfl ?_)
  try refine d8 ?_
  refine j3 rfl ?_ ?_ <;> intro hc2
  ·repeat (first | refine wW ?_ | refine r4 ?_ | refine N7 ?_)
   exact Z2 rfl (by conv=>(lhs; whnf)) ⟨congrArg (Value.int .i64) (by rw [bx6] at hc2; rw [Int.sign_eq_one_of_pos (by omega)]),k1⟩
  repeat (first | refine wW ?_ | refine wp_skip ?_)
  exact Z2 rfl (by conv=>(lhs; whnf)) ⟨congrArg (Value.int .i64) (by rw [bx6] at hc2; rw [show z = 0 by omega]; rfl),k1⟩
theorem dt7 {z : Int} (h : IntV S 227 .u32 w v z) :
  Gives prog 126 [v] w fun v' w'=>Ext w w' ∧ IntV S 227 .u32 w' v' (-z):=by
 obtain ⟨m,rfl,hm⟩:=h
 refine l6 func126 rfl rfl rfl ?_
 repeat refine wW ?_
 refine s6 (cs:=[.bool (tst (z < 0)),m]) rfl ?_
 intro w1 g k1 hg hgs
 skip
 refine q9 (cs:=[.bool false,.slice none 0 0]) rfl ?_
 intro w2 g2 k2 hg2 hgs2
 replace hg:=hg.to k2
 have k:=k1.trans k2
 have hm2:=hm.to k
 repeat (first | refine d7 rfl hg rfl ?_ | refine wW ?_ | refine a96 rfl ?_ | refine j4 rfl ?_)
 refine d9 (Z6 (-z) hm2 (by omega) (by omega)) rfl ?_
 rintro v3 w3 ⟨k3,m3,rfl,h3⟩
 replace hg2:=hg2.to k3
 have hs:=k1.size
 skip
 refine A5 rfl (by conv=>(lhs; whnf)) hg2 rfl h3.one ?_
 intro w4 k4 hg4
 repeat refine wW ?_
 refine R9 rfl (n8 hg4 rfl) ⟨(k.trans k3).past k4 (by omega),m3,rfl,h3.wrT k4 hg2 (by decide)⟩
def as1 (S : Nat → Prop) (T : TypeId) (k : IntKind) (n : Nat) : Ent:=Ent.of (fun v w=>s5 S T k w v n) fun v w w' h kk=>h.to kk
def ba4 (S : Nat → Prop) (T : TypeId) (k : IntKind) (z : Int) : Ent:=Ent.of (fun v w=>IntV S T k w v z) fun v w w' h kk=>h.to kk
theorem a33 {a b : Int} (h : ¬ (a < 0 ↔ b < 0)) (hab : b.natAbs ≤ a.natAbs) : a + b < 0 ↔ a < 0 ∧ 0 < a.natAbs - b.natAbs:=by
 by_cases h1 : a < 0 <;> by_cases h2 : b < 0
 ·exact absurd ⟨fun _=>h2,fun _=>h1⟩ h
 ·omega
 ·omega
 exact absurd ⟨fun x=>by omega,fun x=>by omega⟩ h
theorem bg4 {a b : Int} (h : ¬ (a < 0 ↔ b < 0)) (hab : b.natAbs ≤ a.natAbs) : (a + b).natAbs = a.natAbs - b.natAbs:=by
 by_cases h1 : a < 0 <;> by_cases h2 : b < 0
 ·exact absurd ⟨fun _=>h2,fun _=>h1⟩ h
 ·omega
 ·omega
 exact absurd ⟨fun x=>by omega,fun x=>by omega⟩ h
theorem dl1 {a b : Int} (hS : Up S w) (ha : IntV S 227 .u32 w va a) (hb : IntV S 227 .u32 w vb b) (hla : dl a.natAbs ≤ 1099511627000) (hlb : dl b.natAbs ≤ 1099511627000) :
  Gives prog 197 [va,vb] w fun v' w'=>Ext w w' ∧ IntV S 227 .u32 w' v' (a + b):=by
 obtain ⟨ma,rfl,ha⟩:=ha
 obtain ⟨mb,rfl,hb⟩:=hb
 refine l6 func197 rfl rfl rfl ?_
 repeat refine wW ?_
 refine s6 (cs:=[.bool (tst (a < 0)),ma]) rfl ?_
 intro w1 ga k1 hga hgsa
 skip
 refine s6 (cs:=[.bool (tst (b < 0)),mb]) rfl ?_
 intro w2 gb k2 hgb hgsb
 skip
 refine q9 (cs:=[.bool false,.slice none 0 0]) rfl ?_
 intro w3 g k3 hg hgs
 replace hga:=hga.to (k2.trans k3)
 replace hgb:=hgb.to k3
 have k:=(k1.trans k2).trans k3
 have hs:=(k1.trans k2).size
 replace ha:=ha.to k
 replace hb:=hb.to k
 repeat (first | refine d7 rfl hga rfl ?_ | refine d7 rfl hgb rfl ?_ | refine wW ?_ | refine b8 ?_ | refine j4 rfl ?_)
 refine d9 (af8 ha hb) rfl ?_
 rintro v4 w4 ⟨k4,c,rfl,hc⟩
 replace hga:=hga.to k4
 replace hgb:=hgb.to k4
 replace k:=k.trans k4
 replace ha:=ha.to k4
 replace hb:=hb.to k4
 replace hg:=hg.to k4
 replace hS:=hS.to k
 clear k1 k2 k3 k4
 repeat (first | refine d7 rfl hga rfl ?_ | refine d7 rfl hgb rfl ?_ | refine wW ?_ | refine q5 ?_ | refine c82 rfl rfl ?_ | refine j4 rfl ?_)
 try refine d8 ?_
 refine j3 rfl ?_ ?_ <;> intro he
 ·repeat (first | refine A0 ?_)
  refine s7 8 ?_
  apply a7
  ·intro x w1 k1 hd
   refine j4 rfl ?_
   refine b7 ?_
   exact i6
  apply a7
  ·intro x w1 k1 hd
   refine d7 rfl (hga.to k1) rfl ?_
   refine b7 ?_
   exact i6
  apply a7
  ·intro x w1 k1 hd
   refine j4 rfl ?_
   refine b7 ?_
   exact i6
  apply a7
  ·intro x w1 k1 hd
   refine d7 rfl (hga.to k1) rfl ?_
   refine b7 ?_
   exact i6
  apply a7
  ·intro x w1 k1 hd
   refine j4 rfl ?_
   refine b7 ?_
   exact i6
  apply a7
  ·intro x w1 k1 hd
   refine d7 rfl (hgb.to k1) rfl ?_
   refine b7 ?_
   exact i6
  refine a7 (e:=as1 S 227 .u32 (a.natAbs + b.natAbs)) ?_ ?_
  ·intro x w1 k1 hd
   refine d9 (d87 (hS.to k1) (ha.to k1) (hb.to k1) (by omega) (by omega)) rfl ?_
   rintro v2 w2 ⟨k2,h2⟩
   exact b7 (y7 k2 h2)
  refine a7 (e:=ba4 S 227 .u32 (a + b)) ?_ ?_
  ·intro x w1 k1 hd
   refine d9 (Z6 (a + b) hd.1 (by omega) (by omega)) rfl ?_
   rintro v2 w2 ⟨k2,h2⟩
   exact b7 (y7 k2 h2)
  refine F5 (G7 ?_)
  intro x w5 k5 hall
  obtain ⟨m5,hv5,h5⟩:=hall.1
  refine A5 rfl hv5 (hg.to k5) rfl h5.one ?_
  intro w6 k6 hg6
  repeat (first | refine wW ?_ | refine r4 ?_ | refine N7 ?_)
  refine R9 rfl (n8 hg6 rfl) ⟨Keeps.past (k.trans k5) k6 (by omega),m5,rfl,h5.wrT k6 (hg.to k5) (by decide)⟩
 ·repeat (first | refine wW ?_ | refine aj6 rfl rfl ?_)
  try refine d8 ?_
  refine j3 rfl ?_ ?_ <;> intro hcc
  ·have hge : b.natAbs ≤ a.natAbs:=by have:=hc.1; omega
   repeat (first | refine A0 ?_)
   refine s7 8 ?_
   apply a7
   ·intro x w1 k1 hd
    refine j4 rfl ?_
    refine b7 ?_
    exact i6
   apply a7
   ·intro x w1 k1 hd
    refine d7 rfl (hga.to k1) rfl ?_
    refine b7 ?_
    exact i6
   apply a7
   ·intro x w1 k1 hd
    refine j4 rfl ?_
    refine b7 ?_
    exact i6
   apply a7
   ·intro x w1 k1 hd
    refine d7 rfl (hga.to k1) rfl ?_
    refine b7 ?_
    exact i6
   apply a7
   ·intro x w1 k1 hd
    refine j4 rfl ?_
    refine b7 ?_
    exact i6
   apply a7
   ·intro x w1 k1 hd
    refine d7 rfl (hgb.to k1) rfl ?_
    refine b7 ?_
    exact i6
   refine a7 (e:=as1 S 227 .u32 (a.natAbs - b.natAbs)) ?_ ?_
   ·intro x w1 k1 hd
    refine d9 (bl1 (hS.to k1) (ha.to k1) (hb.to k1) (by omega) hge) rfl ?_
    rintro v2 w2 ⟨k2,h2⟩
    exact b7 (y7 k2 h2)
   refine a7 (e:=ba4 S 227 .u32 (a + b)) ?_ ?_
   ·intro x w1 k1 hd
    refine d9 (Z6 (a + b) hd.1 (bg4 he hge) (a33 he hge)) rfl ?_
    rintro v2 w2 ⟨k2,h2⟩
    exact b7 (y7 k2 h2)
   refine F5 (G7 ?_)
   intro x w5 k5 hall
   obtain ⟨m5,hv5,h5⟩:=hall.1
   refine A5 rfl hv5 (hg.to k5) rfl h5.one ?_
   intro w6 k6 hg6
   repeat (first | refine wW ?_ | refine r4 ?_ | refine N7 ?_)
   refine R9 rfl (n8 hg6 rfl) ⟨Keeps.past (k.trans k5) k6 (by omega),m5,rfl,h5.wrT k6 (hg.to k5) (by decide)⟩
  have hge : a.natAbs ≤ b.natAbs:=by have:=hc.1; omega
  have he2 : ¬ (b < 0 ↔ a < 0):=fun h=>he h.symm
  repeat (first | refine A0 ?_ | refine wp_skip ?_)
  refine s7 8 ?_
  apply a7
  ·intro x w1 k1 hd
   refine j4 rfl ?_
   refine b7 ?_
   exact i6
  apply a7
  ·intro x w1 k1 hd
   refine d7 rfl (hgb.to k1) rfl ?_
   refine b7 ?_
   exact i6
  apply a7
  ·intro x w1 k1 hd
   refine j4 rfl ?_
   refine b7 ?_
   exact i6
  apply a7
  ·intro x w1 k1 hd
   refine d7 rfl (hgb.to k1) rfl ?_
   refine b7 ?_
   exact i6
  apply a7
  ·intro x w1 k1 hd
   refine j4 rfl ?_
   refine b7 ?_
   exact i6
  apply a7
  ·intro x w1 k1 hd
   refine d7 rfl (hga.to k1) rfl ?_
   refine b7 ?_
   exact i6
  refine a7 (e:=as1 S 227 .u32 (b.natAbs - a.natAbs)) ?_ ?_
  ·intro x w1 k1 hd
   refine d9 (bl1 (hS.to k1) (hb.to k1) (ha.to k1) (by omega) hge) rfl ?_
   rintro v2 w2 ⟨k2,h2⟩
   exact b7 (y7 k2 h2)
  refine a7 (e:=ba4 S 227 .u32 (a + b)) ?_ ?_
  ·intro x w1 k1 hd
   refine d9 (Z6 (a + b) hd.1 (by rw [Int.add_comm]; exact bg4 he2 hge) (by rw [Int.add_comm]; exact a33 he2 hge)) rfl ?_
   rintro v2 w2 ⟨k2,h2⟩
   exact b7 (y7 k2 h2)
  refine F5 (G7 ?_)
  intro x w5 k5 hall
  obtain ⟨m5,hv5,h5⟩:=hall.1
  refine A5 rfl hv5 (hg.to k5) rfl h5.one ?_
  intro w6 k6 hg6
  repeat refine wW ?_
  refine R9 rfl (n8 hg6 rfl) ⟨Keeps.past (k.trans k5) k6 (by omega),m5,rfl,h5.wrT k6 (hg.to k5) (by decide)⟩
theorem c01 {o : Oper} {a : Act} {K K' : Act → World → Prop} (h : ∀ a w,K a w → K' a w) (hq : ∀ e a w,Q e a w → Q' e a w)
  (hh : o.wp P a w K Q) : o.wp P a w K' Q':=by
 have hl : LetsOut Q → LetsOut Q':=fun ⟨a,w,x⟩=>⟨a,w,hq _ _ _ x⟩
 unfold Oper.wp at *
 generalize (execOp a.eval o).run P w = r at *
 unfold Oper.upon at *
 split at hh
 ·exact h _ _ hh
 ·exact h _ _ hh
 ·exact h _ _ hh
 ·refine Calls.mono hh ?_
  intro e w' he
  cases e with
  | returned v=>exact h _ _ he
  | panicked c=>exact hq _ _ _ he
  | outgrown=>exact hl he
 ·exact Rows.mono hh fun v w' he=>h _ _ he
 ·exact hq _ _ _ hh
 exact hh.elim
theorem b44 {ops : Array Oper} (hq : ∀ e a w,Q e a w → Q' e a w) : ∀ (l : List Oper) (a : Act) (w : World),wpList P ops Q l a w → wpList P ops Q' l a w:=by
 intro l
 induction l with
 | nil=>intro a w h; exact hq _ _ _ h
 | cons o l ih=>
  intro a w h
  simp only [wpList] at h ⊢
  split at h
  ·rename_i hw
   rw [if_pos hw]
   rcases h with h | ⟨h,a',w',h2⟩
   ·exact .inl (c01 ih hq h)
   exact .inr ⟨h,a',w',hq _ _ _ h2⟩
  rename_i hw
  rw [if_neg hw]
  exact ih _ _ h
theorem cb1 {Q : G8} {all : List Oper} {K : Fr → World → Prop} (W : List (Nat × Nat)) (R : Fr → World → Prop) (h1 : WpR P n all (L6 (fun ρ' w'=>aa4 W ρ ρ' ∧ R ρ' w') Q) rest ρ w)
  (h2 : ∀ u w',R (over W u ρ) w' → K (over W u ρ) w') : WpR P n all (L6 K Q) rest ρ w:=by
 unfold WpR at *
 intro hok D a hm
 refine b44 ?_ _ _ _ (h1 hok D a hm)
 rintro e a w ⟨ρ',hm',hq⟩
 refine ⟨ρ',hm',?_⟩
 cases e with
 | normal=>
  obtain ⟨hag,hR⟩:=hq
  have ho:=ak5 hag
  show K ρ' w
  rw [ho] at hR ⊢
  exact h2 ρ' w hR
 | _=>exact hq
section rules
variable {P : Program} {n : Nat} {Q : G8} {ρ : Fr} {w : World} {all rest : List Oper} {d : Tmp} {ty : TypeId} {pos : String} {aft : Array Edge}
theorem a67 [ti : TyI P T s b z agg] [st : StcT P T pl] (hz : z.cells = cs.toArray)
  (h : WpR P n all Q rest (upd ρ d (.agg cs.toArray)) w) : WpR P n all Q (⟨some d,.build T #[],ty,pos,aft,none⟩ :: rest) ρ w:=
 a48 (parts:=[]) hz rfl ar3 h
theorem do4 [st : StcT P T pl] (hx : ev ρ x = v) (h : WpR P n all Q rest (upd ρ d (.iface T v)) w) :
  WpR P n all Q (⟨some d,.makeInterface T x,ty,pos,aft,none⟩ :: rest) ρ w:=by
 obtain ⟨fs,h1,_⟩:=st.ex
 refine F1 rfl rfl ?_ h
 subst hx
 simp [execOp,Instr.makeInterface,run_underlying h1]
theorem a54 {xt : TypeId} [st : StcT P T pl] (hx : ev ρ x = .iface T v) (h : WpR P n all Q rest (upd ρ d (.tuple #[v,.bool true])) w) :
  WpR P n all Q (⟨some d,.typeAssert x xt T true,ty,pos,aft,none⟩ :: rest) ρ w:=by
 obtain ⟨fs,h1,_⟩:=st.ex
 refine F1 rfl rfl ?_ h
 simp [execOp,Instr.typeAssert,hx,run_underlying h1]
theorem aj1 [it : IfcT P t] (hx : ev ρ x = .iface T v) (h : WpR P n all Q rest (upd ρ d (.bool true)) w) :
  WpR P n all Q (⟨some d,.binOp .neq t x (.const .nilIface) t2,ty,pos,aft,none⟩ :: rest) ρ w:=by
 obtain ⟨ms,h1⟩:=it.und
 refine F1 rfl rfl ?_ h
 have h2 : (Op.equal t (.iface T v) .nilIface).run P w = .ok false w:=by
  unfold Op.equal Op.maxDepth Op.equalIn
  simp [run_underlying h1]
 have hn : ev ρ (.const .nilIface) = .nilIface:=rfl
 simp [execOp,hx,hn,eqGuard,binOp,h2]
theorem Z4 [it : IfcT P t] (hx : ev ρ x = .nilIface) (h : WpR P n all Q rest (upd ρ d (.bool false)) w) :
  WpR P n all Q (⟨some d,.binOp .neq t x (.const .nilIface) t2,ty,pos,aft,none⟩ :: rest) ρ w:=by
 obtain ⟨ms,h1⟩:=it.und
 refine F1 rfl rfl ?_ h
 have h2 : (Op.equal t .nilIface .nilIface).run P w = .ok true w:=by
  unfold Op.equal Op.maxDepth Op.equalIn
  simp [run_underlying h1]
 have hn : ev ρ (.const .nilIface) = .nilIface:=rfl
 simp [execOp,hx,hn,eqGuard,binOp,h2]
abbrev F3 (l : List UInt8) : Value:=.string ⟨l.toArray⟩
theorem bs1 {a b : List UInt8} (hx : ev ρ x = F3 a) (hy : ev ρ y = F3 b) (hl : a.length + b.length ≤ 9223372036854775807)
  (h : WpR P n all Q rest (upd ρ d (F3 (a ++ b))) w) : WpR P n all Q (⟨some d,.binOp .add t x y t2,ty,pos,aft,none⟩ :: rest) ρ w:=by
 refine F1 rfl rfl ?_ h
 have h1 : ¬ (((⟨a.toArray⟩ : ByteArray).size + (⟨b.toArray⟩ : ByteArray).size : Nat) : Int) > IntKind.i64.max:=by
  show ¬ ((a.toArray.size + b.toArray.size : Nat) : Int) > IntKind.i64.max
  simp [IntKind.max,IntKind.signed,IntKind.bits]
  omega
 have h2 : (⟨a.toArray⟩ : ByteArray) ++ ⟨b.toArray⟩ = ⟨(a ++ b).toArray⟩:=by
  apply ByteArray.ext
  simp
 simp only [execOp,hx,hy,eqGuard,binOp,Op.stringOp]
 simp only [if_neg h1,h2]
 simp
end rules
theorem ct1 (hS : Up S w) (hm : m ≤ 18446744073709551615) :
  Gives prog 160 [.int .u64 m] w fun v' w'=>Ext w w' ∧ s5 S 227 .u32 w' v' m:=by
 have hl3 : dl m ≤ 3:=G9 (by omega)
 refine l6 func160 rfl rfl rfl ?_
 repeat refine wW ?_
 try refine n6 ?_
 refine F4 ((0,0) :: [(0,0),(3,13)]) (fun k ρ w'=>∃ l v,ρ 0 = .int .u64 k ∧ k ≤ m ∧ ρ 3 = v ∧ l ++ dg k = dg m ∧ Ext w w' ∧ Own w.heap.size 227 1 w' v l.length (l.map fun d : Nat=>.int .u32 d)) m
  ⟨[],_,rfl,Nat.le_refl _,rfl,rfl,.refl,ab9⟩ ?_
 rintro k u w1 ⟨l,v,h0,hk,h3,hd,k1,ho⟩
 refine j7 0 h0 (j7 3 h3 ?_)
 clear h0 h3
 repeat (first | refine wW ?_ | refine b8 ?_ | refine Y1 rfl rfl ?_)
 try refine d8 ?_
 refine j3 rfl ?_ ?_ <;> intro hc
 ·have hkl:=congrArg List.length hd
  rw [List.length_append] at hkl
  have hdk:=al9 (show k ≠ 0 by omega)
  have hdl : (dg m).length = dl m:=rfl
  repeat (first | refine Y7 ?_ | refine wW ?_ | refine J4 ?_ | refine wp_skip ?_ | refine R3 rfl (ah5 (by omega) (by omega)) ?_ | refine aq0 rfl rfl (by omega) (by omega) ?_)
  refine ab4 (by conv=>(lhs; whnf)) rfl ?_
  intro w2 g k2 hb hg
  refine U2 (by conv=>(lhs; whnf)) (ab6 ho k2) rfl hb (by omega) rfl (by simp [Value.oneCell']) (by unfold maxLen; omega) (by omega) (Nat.le_trans k1.size k2.size) ?_
  intro v3 w3 ho3 k3
  repeat (first | refine wW ?_ | refine cf5 rfl rfl (by omega) (by omega) (by omega) ?_)
  refine ⟨by (repeat (first | refine i7 rfl ?_ | exact c7 | refine j1 rfl ?_ | exact b9)),k / 1000000000,by omega,l ++ [k % 1000000000],v3,congrArg (Value.int .u64) (by omega),by omega,rfl,?_,?_,?_⟩
  ·rw [← hd,hdk,List.append_assoc]; rfl
  ·exact Keeps.later (k1.trans k2) k3 fun i hi _ e=>by have:=(ho.lt i e.symm).1; omega
  simpa using ho3
 repeat (first | refine wW ?_ | refine wp_exit ?_)
 refine o5 rfl ⟨k1,?_⟩
 obtain rfl : k = 0:=by omega
 rw [ak1,List.append_nil] at hd
 subst hd
 exact Row.of_own ho hS
end Go.Proofs.YtmkhgjccoolfjaaGreatDoor
end

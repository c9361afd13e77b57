/- Part 1. -/
import Derived.WalkKit
import Derived.WalkLawsBesides
import Derived.WalkSpells
import Derived.Orders
import Derived.Defers
import Derived.Recover
import Derived.Test.YtmkhgjccoolfjaaGreatDoorProg
import Derived.KernelRfl
import Derived.StillTail
set_option linter.unusedSimpArgs false
set_option linter.unusedVariables false
set_option maxRecDepth 100000
set_option maxHeartbeats 8000000
section
namespace Go.Proofs.YtmkhgjccoolfjaaGreatDoor
open Go Go.RowKit Tryz
theorem kx {α : Sort _} {p : α → Prop} {a b : α} (h : p b) (e : a = b:=by kernel_rfl) : ∃ x,a = x ∧ p x:=⟨b,e,h⟩
@[irreducible] noncomputable def tst (p : Prop) : Bool:=@decide p (Classical.propDecidable p)
theorem l9 {p : Prop} (h : p) : tst p = true:=by unfold tst; exact @decide_eq_true p (Classical.propDecidable p) h
theorem j8 {p : Prop} (h : ¬ p) : tst p = false:=by unfold tst; exact @decide_eq_false p (Classical.propDecidable p) h
theorem dy2 {p : Prop} (h : tst p = true) : p:=by unfold tst at h; exact @of_decide_eq_true p (Classical.propDecidable p) h
theorem ca9 {p : Prop} (h : tst p = false) : ¬ p:=by unfold tst at h; exact @of_decide_eq_false p (Classical.propDecidable p) h
theorem R3 {p : Prop} [Decidable p] : decide p = tst p:=by
 by_cases h : p
 ·rw [l9 h,decide_eq_true h]
 rw [j8 h,decide_eq_false h]
theorem be4 {p : Prop} : (!tst p) = tst (¬ p):=by
 by_cases h : p
 ·rw [l9 h,j8 (fun k=>k h)]; rfl
 rw [j8 h,l9 h]; rfl
abbrev Fr:=Nat → Value
def upd (ρ : Fr) (d : Nat) (v : Value) : Fr:=fun i=>bif Nat.beq i d then v else ρ i
def ap4 (ρ : Fr) (d : Option Tmp) (v : Value) : Fr:=match d with | none=>ρ | some d=>upd ρ d v
def ev (ρ : Fr) (x : Operand) : Value:=match x with
 | .tmp t=>ρ t
 | .const v=>v
 | .global g=>.pointer (some ⟨g,0,none⟩)
 | .func f=>.func (.func f) #[] #[]
theorem D9 (ρ : Fr) (d : Nat) (v : Value) : upd ρ d v d = v:=by simp [upd]
theorem O8 {ρ : Fr} {i d : Nat} {v : Value} (h : Nat.beq i d = false) : upd ρ d v i = ρ i:=by simp [upd,h]
theorem a58 {ρ : Fr} {d : Nat} {v : Value} (h : ρ d = v) : upd ρ d v = ρ:=by
 funext i
 unfold upd
 cases hb : Nat.beq i d with
 | false=>rfl
 | true=>rw [Nat.eq_of_beq_eq_true hb,h]; rfl
def aa4 (n : Nat) (o : Oper) : Bool:=match o.dst with | none=>true | some d=>Nat.blt d n
def N8 (n : Nat) : Code → Bool
 | .region _ ops _=>ops.toList.all (aa4 n)
 | .seq a b=>N8 n a && N8 n b
 | .cond _ a b=>N8 n a && N8 n b
 | .block _ c=>N8 n c
 | .loop c=>N8 n c
 | .scope c=>N8 n c
 | .rangeFunc _ _ _ _=>false
 | _=>true
structure Mt (n : Nat) (D : List Deferred) (a : Act) (ρ : Fr) : Prop where
 size : a.tmps.size = n
 defers : a.defers = D
 get : ∀ i,a.tmps.getD i undef = ρ i
theorem Mt.eval {n : Nat} {D : List Deferred} {a : Act} {ρ : Fr} (h : Mt n D a ρ) : a.eval = ev ρ:=by
 funext x
 cases x with
 | tmp t=>exact h.get t
 | _=>rfl
theorem Mt.put {n : Nat} {D : List Deferred} {a : Act} {ρ : Fr} (h : Mt n D a ρ) {d : Nat} (hd : Nat.blt d n = true) (v : Value) : Mt n D (a.put (some d) v) (upd ρ d v):=by
 have hd' : d < n:=Nat.le_of_ble_eq_true hd
 refine ⟨by simp [Act.put,h.size],h.defers,fun i=>?_⟩
 by_cases e : i = d
 ·subst e
  rw [D9]
  simp [Act.put,Array.getD,h.size,hd']
 have hb : Nat.beq i d = false:=by
  cases hb : Nat.beq i d with
  | false=>rfl
  | true=>exact absurd (Nat.eq_of_beq_eq_true hb) e
 rw [O8 hb,← h.get i]
 have e' : d ≠ i:=fun x=>e x.symm
 simp [Act.put,Array.getD_eq_getD_getElem?,Array.getElem?_setIfInBounds_ne e']
theorem Mt.putO {n : Nat} {D : List Deferred} {a : Act} {ρ : Fr} (h : Mt n D a ρ) {o : Oper} (hd : aa4 n o = true) (v : Value) : Mt n D (a.put o.dst v) (ap4 ρ o.dst v):=by
 unfold aa4 at hd
 cases ho : o.dst with
 | none=>exact h
 | some d=>rw [ho] at hd; exact h.put hd v
abbrev G3:=Exit → Fr → World → Prop
def bj6 (n : Nat) (D : List Deferred) (Q : G3) : Exit → Act → World → Prop:=fun e a w=>∃ ρ,Mt n D a ρ ∧ Q e ρ w
def Wp (P : Program) (n : Nat) (c : Code) (Q : G3) (ρ : Fr) (w : World) : Prop:=
 N8 n c = true → ∀ D a,Mt n D a ρ → c.wp P (bj6 n D Q) a w
def L9 (K : Fr → World → Prop) (Q : G3) : G3:=fun e ρ w=>match e with | .normal=>K ρ w | e=>Q e ρ w
def K5 (id : Nat) (Q : G3) : G3:=fun e ρ w=>match e with | .exit i=>(bif Nat.beq i id then Q .normal ρ w else Q (.exit i) ρ w) | e=>Q e ρ w
def Gives (P : Program) (f : FuncId) (args : List Value) (w : World) (Ψ : Value → World → Prop) : Prop:=
 Calls P f args.toArray w fun e w'=>∃ v,e = .returned v ∧ Ψ v w'
theorem Gives.mono {P : Program} {f : FuncId} {args : List Value} {w : World} {Ψ Φ : Value → World → Prop} (h : Gives P f args w Ψ) (k : ∀ v w',Ψ v w' → Φ v w') : Gives P f args w Φ:=
 Calls.mono h fun _ _ ⟨v,he,hv⟩=>⟨v,he,k _ _ hv⟩
def Stp (P : Program) (σ : Operand → Value) (o : Oper) (w : World) (K : Value → World → Prop) : Prop:=
 match (execOp σ o).run P w with
 | .ok (.value v) w'=>K v w'
 | .ok .skip w'=>K undef w'
 | .ok (.enter f args) w'=>Gives P f args.toList w' K
 | _=>False
theorem Stp.mono {P : Program} {σ : Operand → Value} {o : Oper} {w : World} {K K' : Value → World → Prop} (h : Stp P σ o w K) (k : ∀ v w',K v w' → K' v w') : Stp P σ o w K':=by
 unfold Stp at *
 split <;> rename_i hr <;> simp only [hr] at h
 ·exact k _ _ h
 ·exact k _ _ h
 exact h.mono k
theorem Stp.wp {P : Program} {σ : Operand → Value} {o : Oper} {a : Act} {w : World} {K : Act → World → Prop} {Q : Exit → Act → World → Prop} (hσ : a.eval = σ)
  (h : Stp P σ o w (fun v w'=>K (a.put o.dst v) w')) : o.wp P a w K Q:=by
 unfold Stp at h
 unfold Oper.wp
 rw [hσ]
 generalize (execOp σ o).run P w = r at h
 split at h
 ·exact h
 ·exact h
 ·show Calls _ _ _ _ _
  unfold Gives at h
  simp only [Array.toArray_toList] at h
  exact Calls.mono h fun e w' ⟨v,he,hk⟩=>by subst he; exact hk
 exact h.elim
def WpR (P : Program) (n : Nat) (all : List Oper) (Q : G3) (l : List Oper) (ρ : Fr) (w : World) : Prop:=
 l.all (aa4 n) = true → ∀ D a,Mt n D a ρ → wpList P all.toArray (bj6 n D Q) l a w
section rules
variable {P : Program} {n : Nat} {Q : G3} {ρ : Fr} {w : World}
theorem wp_seq {a b : Code} (h : Wp P n a (L9 (fun ρ w=>Wp P n b Q ρ w) Q) ρ w) : Wp P n (.seq a b) Q ρ w:=by
 intro hc D act hm
 simp only [N8,Bool.and_eq_true] at hc
 refine Go.wp_seq (Go.wp_mono (h hc.1 _ act hm) ?_)
 rintro e a' w' ⟨ρ',hm',hq⟩
 cases e with
 | normal=>exact hq hc.2 _ a' hm'
 | _=>exact ⟨ρ',hm',hq⟩
theorem wp_skip (h : Q .normal ρ w) : Wp P n .skip Q ρ w:=fun _ D a hm=>Go.wp_skip ⟨ρ,hm,h⟩
theorem wp_exit {i : Nat} (h : Q (.exit i) ρ w) : Wp P n (.exit i) Q ρ w:=fun _ D a hm=>Go.wp_exit ⟨ρ,hm,h⟩
theorem wp_ret (h : Q .ret ρ w) : Wp P n .ret Q ρ w:=fun _ D a hm=>Go.wp_ret ⟨ρ,hm,h⟩
theorem wp_block {i : Nat} {c : Code} (h : Wp P n c (K5 i Q) ρ w) : Wp P n (.block i c) Q ρ w:=by
 intro hc D act hm
 refine Go.wp_block (Go.wp_mono (h hc _ act hm) ?_)
 rintro e a' w' ⟨ρ',hm',hq⟩
 cases e with
 | exit j=>
  simp only [Exit.inBlock]
  by_cases e : j = i
  ·subst e
   rw [if_pos rfl]
   simp only [K5,Nat.beq_refl,cond_true] at hq
   exact ⟨ρ',hm',hq⟩
  rw [if_neg e]
  have hb : Nat.beq j i = false:=by
   cases hb : Nat.beq j i with
   | false=>rfl
   | true=>exact absurd (Nat.eq_of_beq_eq_true hb) e
  simp only [K5,hb,cond_false] at hq
  exact ⟨ρ',hm',hq⟩
 | _=>exact ⟨ρ',hm',hq⟩
theorem wp_cond_true {c : Operand} {x y : Code} (hc : ev ρ c = .bool true) (h : Wp P n x Q ρ w) : Wp P n (.cond c x y) Q ρ w:=by
 intro hok D act hm
 simp only [N8,Bool.and_eq_true] at hok
 exact Go.wp_cond_true (by rw [hm.eval]; exact hc) (h hok.1 _ act hm)
theorem wp_cond_false {c : Operand} {x y : Code} (hc : ev ρ c = .bool false) (h : Wp P n y Q ρ w) : Wp P n (.cond c x y) Q ρ w:=by
 intro hok D act hm
 simp only [N8,Bool.and_eq_true] at hok
 exact Go.wp_cond_false (by rw [hm.eval]; exact hc) (h hok.2 _ act hm)
theorem dp3 {c : Operand} {x y : Code} {b : Bool} (hc : ev ρ c = .bool b) (ht : b = true → Wp P n x Q ρ w) (hf : b = false → Wp P n y Q ρ w) : Wp P n (.cond c x y) Q ρ w:=by
 cases b
 ·exact wp_cond_false hc (hf rfl)
 exact wp_cond_true hc (ht rfl)
theorem j4 {c : Operand} {x y : Code} {p : Prop} (hc : ev ρ c = .bool (tst p)) (ht : p → Wp P n x Q ρ w) (hf : ¬ p → Wp P n y Q ρ w) : Wp P n (.cond c x y) Q ρ w:=
 dp3 hc (fun h=>ht (dy2 h)) (fun h=>hf (ca9 h))
theorem bb4 {c : Operand} {x y : Code} {p : Prop} (hc : ev ρ c = .bool (tst p)) (hp : p) (h : Wp P n x Q ρ w) : Wp P n (.cond c x y) Q ρ w:=wp_cond_true (by rw [hc,l9 hp]) h
theorem bl9 {c : Operand} {x y : Code} {p : Prop} (hc : ev ρ c = .bool (tst p)) (hp : ¬ p) (h : Wp P n y Q ρ w) : Wp P n (.cond c x y) Q ρ w:=wp_cond_false (by rw [hc,j8 hp]) h
theorem j9 {c : Code} (d : Nat) {v : Value} (h : ρ d = v) (k : Wp P n c Q (upd ρ d v) w) : Wp P n c Q ρ w:=by rwa [a58 h] at k
theorem wp_mono {c : Code} {Q' : G3} (h : Wp P n c Q ρ w) (k : ∀ e ρ w,Q e ρ w → Q' e ρ w) : Wp P n c Q' ρ w:=
 fun hc D a hm=>Go.wp_mono (h hc _ a hm) fun _ _ _ ⟨ρ',hm',hq⟩=>⟨ρ',hm',k _ _ _ hq⟩
def inW : List (Nat × Nat) → Nat → Bool
 | [],_=>false
 | (a,b) :: r,i=>bif Nat.ble a i then (bif Nat.ble i b then true else inW r i) else inW r i
def aa3 (W : List (Nat × Nat)) (ρ ρ' : Fr) : Prop:=∀ i,inW W i = false → ρ' i = ρ i
theorem f5 {W : List (Nat × Nat)} : aa3 W ρ ρ:=fun _ _=>rfl
theorem j2 {W : List (Nat × Nat)} {ρ' : Fr} {d : Nat} {v : Value} (hd : inW W d = true) (h : aa3 W ρ ρ') : aa3 W ρ (upd ρ' d v):=by
 intro i hi
 rw [O8,h i hi]
 cases hb : Nat.beq i d with
 | false=>rfl
 | true=>rw [Nat.eq_of_beq_eq_true hb,hd] at hi; cases hi
def over (W : List (Nat × Nat)) (u ρ : Fr) : Fr:=fun i=>bif inW W i then u i else ρ i
theorem ak4 {W : List (Nat × Nat)} {ρ' : Fr} (h : aa3 W ρ ρ') : ρ' = over W ρ' ρ:=by
 funext i
 unfold over
 cases hi : inW W i with
 | true=>rfl
 | false=>exact h i hi
theorem i6 {W : List (Nat × Nat)} {u : Fr} : aa3 W ρ (over W u ρ):=by
 intro i hi
 unfold over
 rw [hi]
 rfl
def fd1 (V W : List (Nat × Nat)) : Bool:=V.all fun p=>W.any fun q=>Nat.ble q.1 p.1 && Nat.ble p.2 q.2
theorem co6 {W : List (Nat × Nat)} {i : Nat} : inW W i = true ↔ ∃ p ∈ W,p.1 ≤ i ∧ i ≤ p.2:=by
 induction W with
 | nil=>simp [inW]
 | cons p r ih=>
  obtain ⟨a,b⟩:=p
  simp only [inW,List.mem_cons,exists_eq_or_imp]
  cases ha : Nat.ble a i with
  | false=>
   have : ¬ a ≤ i:=fun h=>by rw [Nat.ble_eq_true_of_le h] at ha; cases ha
   simp [ih,this]
  | true=>
   have ha':=Nat.le_of_ble_eq_true ha
   cases hb : Nat.ble i b with
   | false=>
    have : ¬ i ≤ b:=fun h=>by rw [Nat.ble_eq_true_of_le h] at hb; cases hb
    simp [ih,this]
   | true=>
    have hb':=Nat.le_of_ble_eq_true hb
    simp [ha',hb']
theorem j3 {V W : List (Nat × Nat)} {ρ' u : Fr} (hs : fd1 V W = true) (h : aa3 W ρ ρ') : aa3 W ρ (over V u ρ'):=by
 intro i hi
 unfold over
 cases hv : inW V i with
 | false=>exact h i hi
 | true=>
  obtain ⟨p,hp,h1,h2⟩:=co6.1 hv
  have h3:=List.all_eq_true.1 hs p hp
  obtain ⟨q,hq,h4⟩:=List.any_eq_true.1 h3
  simp only [Bool.and_eq_true] at h4
  have:=co6.2 ⟨q,hq,Nat.le_trans (Nat.le_of_ble_eq_true h4.1) h1,Nat.le_trans h2 (Nat.le_of_ble_eq_true h4.2)⟩
  rw [hi] at this
  cases this
theorem dp5 {c : Code} (W : List (Nat × Nat)) (I : Nat → Fr → World → Prop) (k0 : Nat) (h0 : I k0 ρ w)
  (round : ∀ k u w',I k (over W u ρ) w' → Wp P n c (L9 (fun ρ' w''=>aa3 W ρ ρ' ∧ ∃ k',k' < k ∧ I k' ρ' w'') Q) (over W u ρ) w') :
  Wp P n (.loop c) Q ρ w:=by
 intro hc D act hm b K cs
 have key : ∀ k act w' ρ',Mt n D act ρ' → aa3 W ρ ρ' → I k ρ' w' →
   ∃ e a' w'',bj6 n D Q e a' w'' ∧ Arrives P (lone (b.at act (.code c :: .inLoop c :: K)) cs w') b K cs e a' w'':=by
  intro k
  induction k using Nat.strongRecOn with
  | _ k ih=>
   intro act w' ρ' hm' hag hI
   have ho:=ak4 hag
   rw [ho] at hI
   obtain ⟨e,a₁,w₁,⟨ρ₁,hm₁,hq⟩,harr⟩:=round k ρ' w' hI hc _ act (ho ▸ hm') b (.inLoop c :: K) cs
   cases e with
   | normal=>
    obtain ⟨hag₁,k',hlt,hI₁⟩:=hq
    obtain ⟨e₂,a₂,w₂,hq₂,harr₂⟩:=ih k' hlt a₁ w₁ ρ₁ hm₁ hag₁ hI₁
    exact ⟨e₂,a₂,w₂,hq₂,.of_steps (Steps.trans harr (.one step_inLoop)) harr₂⟩
   | exit id=>exact ⟨_,a₁,w₁,⟨ρ₁,hm₁,hq⟩,.pass (x:=.inLoop c) rfl (fun _ _=>.inl (by simp)) harr⟩
   | goto l=>exact ⟨_,a₁,w₁,⟨ρ₁,hm₁,hq⟩,.pass (x:=.inLoop c) rfl (fun _ _=>.inl (by simp)) harr⟩
   | ret=>exact ⟨_,a₁,w₁,⟨ρ₁,hm₁,hq⟩,.pass (x:=.inLoop c) rfl (fun _ _=>.inl (by simp)) harr⟩
   | panic ch=>exact ⟨_,a₁,w₁,⟨ρ₁,hm₁,hq⟩,.pass (x:=.inLoop c) rfl (fun _ _=>.inl (by simp)) harr⟩
   | outgrown=>exact ⟨_,a₁,w₁,⟨ρ₁,hm₁,hq⟩,.pass (x:=.inLoop c) rfl (fun _ _=>.inl (by simp)) harr⟩
 obtain ⟨e,a',w',hq,harr⟩:=key k0 act w ρ hm f5 h0
 exact ⟨e,a',w',hq,.of_steps (.one step_loop) harr⟩
theorem H3 {i : Nat} {c : Code} (W : List (Nat × Nat)) (I : Nat → Fr → World → Prop) (k0 : Nat) (h0 : I k0 ρ w)
  (round : ∀ k u w',I k (over W u ρ) w' → Wp P n c (L9 (fun ρ' w''=>aa3 W ρ ρ' ∧ ∃ k',k' < k ∧ I k' ρ' w'') (K5 i Q)) (over W u ρ) w') :
  Wp P n (.block i (.loop c)) Q ρ w:=wp_block (dp5 W I k0 h0 round)
theorem ay3 {c : Code} {K : Fr → World → Prop} (W : List (Nat × Nat)) (R : Fr → World → Prop) (h1 : Wp P n c (L9 (fun ρ' w'=>aa3 W ρ ρ' ∧ R ρ' w') Q) ρ w)
  (h2 : ∀ u w',R (over W u ρ) w' → K (over W u ρ) w') : Wp P n c (L9 K Q) ρ w:=by
 refine wp_mono h1 fun e ρ' w' hq=>?_
 cases e with
 | normal=>
  obtain ⟨hag,hR⟩:=hq
  have ho:=ak4 hag
  show K ρ' w'
  rw [ho] at hR ⊢
  exact h2 ρ' w' hR
 | _=>exact hq
theorem D3 {j : Nat} {ops : Array Oper} {d : Bool} {b : Code} (h : Wp P n (.region j ops d) (L9 (fun ρ w=>Wp P n b Q ρ w) Q) ρ w) : Wp P n (.seq (.region j ops d) b) Q ρ w:=wp_seq h
theorem d7 {x y b : Code} (h : Wp P n (.seq x y) (L9 (fun ρ w=>Wp P n b Q ρ w) Q) ρ w) : Wp P n (.seq (.seq x y) b) Q ρ w:=wp_seq h
theorem Y9 {i j : Nat} {ops : Array Oper} {d : Bool} {b : Code} (h : Wp P n (.block i (.region j ops d)) (L9 (fun ρ w=>Wp P n b Q ρ w) Q) ρ w) : Wp P n (.seq (.block i (.region j ops d)) b) Q ρ w:=wp_seq h
theorem B4 {i : Nat} {x y b : Code} (h : Wp P n (.block i (.seq x y)) (L9 (fun ρ w=>Wp P n b Q ρ w) Q) ρ w) : Wp P n (.seq (.block i (.seq x y)) b) Q ρ w:=wp_seq h
theorem o9 {i : Nat} {x b : Code} (h : Wp P n (.block i x) (L9 (fun ρ w=>Wp P n b Q ρ w) Q) ρ w) : Wp P n (.seq (.block i x) b) Q ρ w:=wp_seq h
theorem i7 {c : Operand} {x y b : Code} (h : Wp P n (.cond c x y) (L9 (fun ρ w=>Wp P n b Q ρ w) Q) ρ w) : Wp P n (.seq (.cond c x y) b) Q ρ w:=wp_seq h
theorem S6 {c : Operand} {x y : Code} {p : Prop} {K : Fr → World → Prop} (W : List (Nat × Nat)) (R : Fr → World → Prop) (hc : ev ρ c = .bool (tst p))
  (ht : p → Wp P n x (L9 (fun ρ' w'=>aa3 W ρ ρ' ∧ R ρ' w') Q) ρ w) (hf : ¬ p → Wp P n y (L9 (fun ρ' w'=>aa3 W ρ ρ' ∧ R ρ' w') Q) ρ w)
  (h2 : ∀ u w',R (over W u ρ) w' → K (over W u ρ) w') : Wp P n (.cond c x y) (L9 K Q) ρ w:=ay3 W R (j4 hc ht hf) h2
theorem K7 {i j : Nat} {ops : Array Oper} {b : Bool} (h : Wp P n (.region j ops b) (K5 i Q) ρ w) : Wp P n (.block i (.region j ops b)) Q ρ w:=wp_block h
theorem r6 {i : Nat} {x y : Code} (h : Wp P n (.seq x y) (K5 i Q) ρ w) : Wp P n (.block i (.seq x y)) Q ρ w:=wp_block h
theorem aa7 {id : Nat} {l : List Oper} (h : WpR P n l Q l ρ w) : Wp P n (.region id l.toArray false) Q ρ w:=by
 intro hc D act hm
 simp only [N8] at hc
 exact wp_region_lit (h (by simpa using hc) _ act hm)
theorem d6 {all : List Oper} (h : Q .normal ρ w) : WpR P n all Q [] ρ w:=fun _ D a hm=>wpList_nil ⟨ρ,hm,h⟩
theorem a54 {all l : List Oper} (d : Nat) {v : Value} (h : ρ d = v) (k : WpR P n all Q l (upd ρ d v) w) : WpR P n all Q l ρ w:=by rwa [a58 h] at k
theorem bm7 {all rest : List Oper} {o : Oper} (hg : o.guard = none) (h : Stp P (ev ρ) o w (fun v w'=>WpR P n all Q rest (ap4 ρ o.dst v) w')) : WpR P n all Q (o :: rest) ρ w:=by
 intro hd D a hm
 simp only [List.all_cons,Bool.and_eq_true] at hd
 refine wpList_plain hg fun K hK=>?_
 refine Stp.wp (σ:=ev ρ) hm.eval (h.mono fun v w' hw=>?_)
 exact hK _ _ (hw hd.2 _ _ (hm.putO hd.1 v))
def H6 (all : List Oper) (j : Nat) : Option Nat:=(all[j]?).bind (·.dst)
theorem bm2 {all : List Oper} {D : List Deferred} {a : Act} {j d : Nat} {b : Bool} (hm : Mt n D a ρ) (hd : H6 all j = some d) (hv : ρ d = .bool b) : yielded all.toArray a.tmps j = some b:=by
 unfold yielded
 have h1 : ((all.toArray)[j]?).bind (·.dst) = some d:=by simpa [H6] using hd
 rw [h1]
 have hg:=hm.get d
 rw [hv] at hg
 cases hx : a.tmps[d]? with
 | none=>simp [Array.getD_eq_getD_getElem?,hx,undef] at hg
 | some v=>simp [Array.getD_eq_getD_getElem?,hx] at hg; simp [hx,hg]
theorem bm8 {all : List Oper} {D : List Deferred} {a : Act} {j d : Nat} (hm : Mt n D a ρ) (hd : H6 all j = some d) (hv : ρ d = undef) : yielded all.toArray a.tmps j = none:=by
 unfold yielded
 have h1 : ((all.toArray)[j]?).bind (·.dst) = some d:=by simpa [H6] using hd
 rw [h1]
 have hg:=hm.get d
 rw [hv] at hg
 cases hx : a.tmps[d]? with
 | none=>simp [hx]
 | some v=>simp [Array.getD_eq_getD_getElem?,hx] at hg; simp [hx,hg,undef]
theorem r4 {all rest : List Oper} {dst : Option Tmp} {op : Op} {ty : TypeId} {pos : String} {aft : Array Edge} {j d : Nat} {want : Bool}
  (hd : H6 all j = some d) (hv : ρ d = .bool want) (h : WpR P n all Q (⟨dst,op,ty,pos,aft,none⟩ :: rest) ρ w) :
  WpR P n all Q (⟨dst,op,ty,pos,aft,some (j,want)⟩ :: rest) ρ w:=by
 intro hok D a hm
 have hy:=bm2 hm hd hv
 have h':=h hok _ a hm
 simp only [wpList,Region.wanted,hy,if_true,beq_self_eq_true] at h' ⊢
 exact h'
theorem y7 {all rest : List Oper} {dst : Option Tmp} {op : Op} {ty : TypeId} {pos : String} {aft : Array Edge} {j d : Nat} {want b : Bool}
  (hd : H6 all j = some d) (hv : ρ d = .bool b) (hb : (b == want) = false) (h : WpR P n all Q rest (ap4 ρ dst undef) w) :
  WpR P n all Q (⟨dst,op,ty,pos,aft,some (j,want)⟩ :: rest) ρ w:=by
 intro hok D a hm
 have hy:=bm2 hm hd hv
 simp only [List.all_cons,Bool.and_eq_true] at hok
 have h':=h hok.2 _ _ (hm.putO (o:=⟨dst,op,ty,pos,aft,some (j,want)⟩) hok.1 undef)
 have hw : (some b == some want) = false:=by simpa using hb
 simp only [wpList,Region.wanted,hy,hw]
 exact h'
theorem W0 {all rest : List Oper} {dst : Option Tmp} {op : Op} {ty : TypeId} {pos : String} {aft : Array Edge} {j d : Nat} {want : Bool}
  (hd : H6 all j = some d) (hv : ρ d = undef) (h : WpR P n all Q rest (ap4 ρ dst undef) w) :
  WpR P n all Q (⟨dst,op,ty,pos,aft,some (j,want)⟩ :: rest) ρ w:=by
 intro hok D a hm
 have hy:=bm8 hm hd hv
 simp only [List.all_cons,Bool.and_eq_true] at hok
 have h':=h hok.2 _ _ (hm.putO (o:=⟨dst,op,ty,pos,aft,some (j,want)⟩) hok.1 undef)
 have hw : ((none : Option Bool) == some want) = false:=rfl
 simp only [wpList,Region.wanted,hy,hw]
 exact h'
theorem dn4 {all l : List Oper} (d : Nat) {p : Prop} (hv : ρ d = .bool (tst p))
  (ht : p → WpR P n all Q l (upd ρ d (.bool true)) w) (hf : ¬ p → WpR P n all Q l (upd ρ d (.bool false)) w) : WpR P n all Q l ρ w:=by
 by_cases h : p
 ·exact a54 d (by rw [hv,l9 h]) (ht h)
 exact a54 d (by rw [hv,j8 h]) (hf h)
theorem G4 {all rest : List Oper} {dst : Option Tmp} {op : Op} {ty : TypeId} {pos : String} {aft : Array Edge} {j d : Nat} {want : Bool} {p : Prop}
  (hd : H6 all j = some d) (hv : ρ d = .bool (tst p))
  (ht : p → WpR P n all Q (⟨dst,op,ty,pos,aft,some (j,want)⟩ :: rest) (upd ρ d (.bool true)) w) (hf : ¬ p → WpR P n all Q (⟨dst,op,ty,pos,aft,some (j,want)⟩ :: rest) (upd ρ d (.bool false)) w) :
  WpR P n all Q (⟨dst,op,ty,pos,aft,some (j,want)⟩ :: rest) ρ w:=dn4 d hv ht hf
theorem ch1 {all rest : List Oper} {dst : Option Tmp} {op : Op} {ty : TypeId} {pos : String} {aft : Array Edge} {j d : Nat} {want : Bool} {p : Prop}
  (hd : H6 all j = some d) (hv : ρ d = .bool (tst p)) (hp : ¬ p)
  (h : WpR P n all Q (⟨dst,op,ty,pos,aft,some (j,want)⟩ :: rest) (upd ρ d (.bool false)) w) :
  WpR P n all Q (⟨dst,op,ty,pos,aft,some (j,want)⟩ :: rest) ρ w:=a54 d (by rw [hv,j8 hp]) h
theorem N7 {K : Fr → World → Prop} (h : K ρ w) : L9 K Q .normal ρ w:=h
theorem ac8 {K : Fr → World → Prop} {i : Nat} (h : Q (.exit i) ρ w) : L9 K Q (.exit i) ρ w:=h
theorem r8 {K : Fr → World → Prop} (h : Q .ret ρ w) : L9 K Q .ret ρ w:=h
theorem ae6 {i : Nat} (h : Q .normal ρ w) : K5 i Q .normal ρ w:=h
theorem N6 {i : Nat} (h : Q .ret ρ w) : K5 i Q .ret ρ w:=h
theorem Y1 {i j : Nat} (hb : Nat.beq i j = true) (h : Q .normal ρ w) : K5 j Q (.exit i) ρ w:=by simp only [K5,hb]; exact h
theorem bs6 {i j : Nat} (hb : Nat.beq i j = false) (h : Q (.exit i) ρ w) : K5 j Q (.exit i) ρ w:=by simp only [K5,hb]; exact h
end rules
def a36 (P : Program) (ρ : Fr) (w : World) : ResultVar → Value → Prop
 | .tmp t,v=>v = ρ t
 | .cell a t,v=>∃ p,ρ a = .pointer (some p) ∧ (loadVar t p).run P w = .ok v w
def R1 (P : Program) (ρ : Fr) (w : World) : List ResultVar → List Value → Prop
 | [],vs=>vs = []
 | r :: rs,vs=>∃ v vs',a36 P ρ w r v ∧ R1 P ρ w rs vs' ∧ vs = v :: vs'
def bd3 (vs : List Value) : Value:=match vs with | [v]=>v | vs=>.tuple vs.toArray
def ax4 (P : Program) (fn : Func) (Ψ : Value → World → Prop) : G3:=fun e ρ w=>match e with
 | .normal | .ret=>∃ vs,R1 P ρ w fn.results.toList vs ∧ Ψ (bd3 vs) w
 | _=>False
def cr8 (tmps : Array Value) : ResultVar → Sem Value
 | .tmp t=>pure (tmps.getD t undef)
 | .cell a t=>do loadVar t (← asAddr (tmps.getD a undef))
theorem ci0 (fn : Func) (tmps : Array Value) : results fn tmps = (do let vs ← fn.results.mapM (cr8 tmps); pure (if h : vs.size = 1 then vs[0] else .tuple vs)):=by
 unfold results
 congr 1
theorem X5 {P : Program} {fn : Func} {Ψ : Value → World → Prop} {ρ : Fr} {w : World} {t : Tmp} {v : Value} (hl : fn.results.toList = [.tmp t]) (hr : ρ t = v) (hv : Ψ v w) : ax4 P fn Ψ .ret ρ w:=
 ⟨[v],by rw [hl]; exact ⟨v,[],hr.symm,rfl,rfl⟩,hv⟩
theorem q5 {P : Program} {fn : Func} {Ψ : Value → World → Prop} {ρ : Fr} {w : World} {t : Tmp} {v : Value} (hl : fn.results.toList = [.tmp t]) (hv : Ψ v w) (hr : ρ t = v:=by conv=>(lhs; whnf)) : ax4 P fn Ψ .ret ρ w:=
 X5 hl hr hv
theorem as7 {P : Program} {fn : Func} {Ψ : Value → World → Prop} {ρ : Fr} {w : World} {t u : Tmp} {v v2 : Value} (hl : fn.results.toList = [.tmp t,.tmp u]) (hr : ρ t = v) (hr2 : ρ u = v2) (hv : Ψ (.tuple #[v,v2]) w) : ax4 P fn Ψ .ret ρ w:=
 ⟨[v,v2],by rw [hl]; exact ⟨v,[v2],hr.symm,⟨v2,[],hr2.symm,rfl,rfl⟩,rfl⟩,hv⟩
theorem ce1 {P : Program} {n : Nat} {D : List Deferred} {a : Act} {ρ : Fr} {w : World} (hm : Mt n D a ρ) : ∀ (l : List ResultVar) (vs : List Value),R1 P ρ w l vs →
  (l.mapM (cr8 a.tmps)).run P w = .ok vs w:=by
 intro l
 induction l with
 | nil=>intro vs h; simp only [R1] at h; subst h; rfl
 | cons r rs ih=>
  rintro vs ⟨v,vs',hr,hrs,rfl⟩
  have h2:=ih vs' hrs
  have h1 : (cr8 a.tmps r).run P w = .ok v w:=by
   cases r with
   | tmp t=>simp only [a36] at hr; subst hr; simp [cr8,hm.get]
   | cell x t=>
    obtain ⟨p,hp,hl⟩:=hr
    simp only [cr8,hm.get,hp,asAddr]
    simpa using hl
  simp only [List.mapM_cons,Sem.run_bind,h1,Result.andThen,h2,Sem.run_pure]
theorem I4 {P : Program} {n : Nat} {D : List Deferred} {a : Act} {ρ : Fr} {w : World} {fn : Func} (hm : Mt n D a ρ) {vs : List Value} (h : R1 P ρ w fn.results.toList vs) :
  (results fn a.tmps).run P w = .ok (bd3 vs) w:=by
 have h1:=ce1 hm _ _ h
 rw [ci0,Array.mapM_eq_mapM_toList]
 have h2 : (List.toArray <$> List.mapM (cr8 a.tmps) fn.results.toList).run P w = .ok vs.toArray w:=by
  rw [map_eq_pure_bind,Sem.run_bind,h1]
  rfl
 rw [Sem.run_bind,h2]
 simp only [Result.andThen,Sem.run_pure]
 match vs with
 | []=>rfl
 | [v]=>rfl
 | u :: v :: r=>simp [bd3]
theorem l7 {P : Program} {f : FuncId} {fn : Func} {c : Code} {args : List Value} {w : World} {Ψ : Value → World → Prop}
  (hf : P.funcs[f]? = some fn) (hb : fn.body = some c) (hok : N8 fn.ntmps c = true) (hn0 : Nat.ble args.length fn.ntmps = true)
  (h : Wp P fn.ntmps c (ax4 P fn Ψ) (fun i=>args.getD i undef) w) : Gives P f args w Ψ:=by
 have hn : args.length ≤ fn.ntmps:=Nat.le_of_ble_eq_true hn0
 refine calls_of_wp hf hb ?_
 have hm : Mt fn.ntmps [] { tmps:=args.toArray ++ Array.replicate (fn.ntmps - args.toArray.size) undef,defers:=[] } (fun i=>args.getD i undef):=by
  refine ⟨by simp; omega,rfl,fun i=>?_⟩
  simp only [Array.getD_eq_getD_getElem?,List.getD_eq_getElem?_getD]
  rw [Array.getElem?_append]
  split
  ·simp
  rename_i hlt
  simp at hlt
  rw [List.getElem?_eq_none hlt]
  simp only [Array.getElem?_replicate]
  split <;> rfl
 refine Go.wp_mono (h hok _ _ hm) ?_
 rintro e a w' ⟨ρ,hm',hq⟩
 cases e with
 | normal=>obtain ⟨vs,hr,hv⟩:=hq; exact ⟨hm'.defers,_,I4 hm' hr,_,rfl,hv⟩
 | ret=>obtain ⟨vs,hr,hv⟩:=hq; exact ⟨hm'.defers,_,I4 hm' hr,_,rfl,hv⟩
 | _=>exact hq.elim
attribute [irreducible] Wp WpR
structure Keeps (S : Nat → Prop) (w w' : World) : Prop where
 os : w'.os = w.os
 tape : w'.tape = w.tape
 output : w'.output = w.output
 size : w.heap.size ≤ w'.heap.size
 block : ∀ k,k < w.heap.size → S k → w'.heap[k]? = w.heap[k]?
def All : Nat → Prop:=fun _=>True
abbrev Ext (w w' : World) : Prop:=Keeps All w w'
abbrev Wrt (b : Nat) (w w' : World) : Prop:=Keeps (fun k=>k ≠ b) w w'
theorem Keeps.refl {S : Nat → Prop} {w : World} : Keeps S w w:=⟨rfl,rfl,rfl,Nat.le_refl _,fun _ _ _=>rfl⟩
theorem Keeps.trans {S : Nat → Prop} {w w1 w2 : World} (h : Keeps S w w1) (k : Keeps S w1 w2) : Keeps S w w2:=
 ⟨k.os.trans h.os,k.tape.trans h.tape,k.output.trans h.output,Nat.le_trans h.size k.size,fun i hi hs=>(k.block i (Nat.lt_of_lt_of_le hi h.size) hs).trans (h.block i hi hs)⟩
theorem Keeps.mono {S S' : Nat → Prop} {w w' : World} (h : Keeps S w w') (hs : ∀ k,S' k → S k) : Keeps S' w w':=
 ⟨h.os,h.tape,h.output,h.size,fun i hi hk=>h.block i hi (hs i hk)⟩
theorem Keeps.of {S : Nat → Prop} {w w' : World} (h : Ext w w') : Keeps S w w':=h.mono fun _ _=>trivial
theorem Keeps.later {S S' : Nat → Prop} {w w1 w2 : World} (h : Ext w w1) (k : Keeps S' w1 w2) (hs : ∀ i,i < w.heap.size → S i → S' i) : Keeps S w w2:=
 ⟨k.os.trans h.os,k.tape.trans h.tape,k.output.trans h.output,Nat.le_trans h.size k.size,
  fun i hi hk=>(k.block i (Nat.lt_of_lt_of_le hi h.size) (hs i hi hk)).trans (h.block i hi trivial)⟩
theorem Keeps.below {w w' : World} (h : Ext w w') : Below w.heap.size w w':=⟨h.os,h.tape,h.output,h.size,fun k hk=>h.block k hk trivial⟩
theorem Keeps.of_below {w w' : World} (h : Below w.heap.size w w') : Ext w w':=⟨h.os,h.tape,h.output,h.size,fun k hk _=>h.block k hk⟩
theorem Q3 (w : World) (o : Obj) : Ext w (w.alloc o):=⟨rfl,rfl,rfl,by simp,fun k hk _=>Below.heap_alloc w o k hk⟩
theorem a57 (w : World) : Ext w w.drew:=⟨rfl,rfl,rfl,Nat.le_refl _,fun _ _ _=>rfl⟩
theorem b07 (w : World) (a : Addr) (v : Value) : Wrt a.block w (w.setCell a v):=
 ⟨rfl,rfl,rfl,by simp [World.setCell],fun k _ hk=>Below.heap_setCell w a v k hk⟩
def Up (S : Nat → Prop) (w : World) : Prop:=∀ k,w.heap.size ≤ k → S k
theorem Up.to {S S' : Nat → Prop} {w w' : World} (h : Up S w) (k : Keeps S' w w') : Up S w':=fun i hi=>h i (Nat.le_trans k.size hi)
theorem Up.all {w : World} : Up All w:=fun _ _=>trivial
def Blk (w : World) (b : Nat) (T : TypeId) (cs : List Value) : Prop:=w.heap[b]? = some (.cells cs.toArray T (0,0))
theorem Blk.lt {w : World} {b : Nat} {T : TypeId} {cs : List Value} (h : Blk w b T cs) : b < w.heap.size:=(Array.getElem?_eq_some_iff.1 h).1
theorem Blk.keep {S : Nat → Prop} {w w' : World} {b : Nat} {T : TypeId} {cs : List Value} (h : Blk w b T cs) (k : Keeps S w w') (hs : S b) : Blk w' b T cs:=(k.block b h.lt hs).trans h
theorem Blk.to {w w' : World} {b : Nat} {T : TypeId} {cs : List Value} (h : Blk w b T cs) (k : Ext w w') : Blk w' b T cs:=h.keep k trivial
theorem Blk.new (w : World) (T : TypeId) (cs : List Value) : Blk (w.alloc (.cells cs.toArray T)) w.heap.size T cs:=heap_alloc_new w _
theorem Blk.ne {w : World} {b b' : Nat} {T T' : TypeId} {cs cs' : List Value} (h : Blk w b T cs) (h' : Blk w b' T' cs') (hT : T ≠ T') : b ≠ b':=by
 intro e
 subst e
 unfold Blk at h h'
 rw [h] at h'
 simp at h'
 exact hT h'.2
theorem Blk.wr {w w' : World} {b b' : Nat} {T : TypeId} {cs : List Value} (h : Blk w b T cs) (k : Wrt b' w w') (hne : b ≠ b') : Blk w' b T cs:=h.keep k hne
theorem Blk.cell {w : World} {b i : Nat} {T : TypeId} {cs : List Value} {v : Value} (h : Blk w b T cs) (hi : cs[i]? = some v) : w.cell? ⟨b,i,none⟩ = some v:=by
 unfold Blk at h
 simp [World.cell?,h,hi]
theorem Blk.free {w : World} {b i : Nat} {T : TypeId} {cs : List Value} (h : Blk w b T cs) : w.frozen? ⟨b,i,none⟩ = false:=by
 unfold Blk at h
 simp [World.frozen?,h]
theorem Blk.set {w : World} {b i : Nat} {T : TypeId} {cs : List Value} (h : Blk w b T cs) (v : Value) : Blk (w.setCell ⟨b,i,none⟩ v) b T (cs.set i v):=by
 unfold Blk at *
 simp [World.setCell,Array.getElem?_modify,h]
def adr (v : Value) (i : Nat) : Addr:=match v with
 | .slice (some a) _ _=>⟨a.block,a.off + i,none⟩
 | _=>⟨0,i,none⟩
def Row (S : Nat → Prop) (T : TypeId) (s : Nat) (w : World) (v : Value) (n : Nat) (cs : List Value) : Prop:=
 cs.length = n * s ∧ ((v = .slice none 0 0 ∧ n = 0) ∨
  ∃ b off cap arr fr,v = .slice (some ⟨b,off,none⟩) n cap ∧ n ≤ cap ∧ cap ≤ maxLen ∧ S b ∧ w.heap[b]? = some (.cells arr T fr) ∧ off + cap * s ≤ arr.size ∧ (arr.toList.drop off).take (n * s) = cs)
section
variable {S : Nat → Prop} {T : TypeId} {s : Nat} {w w' : World} {v : Value} {n : Nat} {cs : List Value}
theorem Row.keep (h : Row S T s w v n cs) (k : Keeps S w w') : Row S T s w' v n cs:=by
 refine ⟨h.1,?_⟩
 rcases h.2 with h2 | ⟨b,off,cap,arr,fr,hv,h1,h2,hs,hb,h3,h4⟩
 ·exact .inl h2
 exact .inr ⟨b,off,cap,arr,fr,hv,h1,h2,hs,(k.block b (Array.getElem?_eq_some_iff.1 hb).1 hs).trans hb,h3,h4⟩
theorem Row.to (h : Row S T s w v n cs) (k : Ext w w') : Row S T s w' v n cs:=h.keep (.of k)
theorem Row.mono {S' : Nat → Prop} (h : Row S T s w v n cs) (hs : ∀ k,k < w.heap.size → S k → S' k) : Row S' T s w v n cs:=by
 refine ⟨h.1,?_⟩
 rcases h.2 with h2 | ⟨b,off,cap,arr,fr,hv,h1,h2,hb,hg,h3,h4⟩
 ·exact .inl h2
 exact .inr ⟨b,off,cap,arr,fr,hv,h1,h2,hs b (Array.getElem?_eq_some_iff.1 hg).1 hb,hg,h3,h4⟩
theorem Row.wrT {b : Nat} {T' : TypeId} {ds : List Value} (h : Row S T s w v n cs) (k : Wrt b w w') (hb : Blk w b T' ds) (hT : T' ≠ T) : Row S T s w' v n cs:=by
 refine ⟨h.1,?_⟩
 rcases h.2 with h2 | ⟨b',off,cap,arr,fr,hv,h1,h2,hs,hg,h3,h4⟩
 ·exact .inl h2
 refine .inr ⟨b',off,cap,arr,fr,hv,h1,h2,hs,(k.block b' (Array.getElem?_eq_some_iff.1 hg).1 ?_).trans hg,h3,h4⟩
 intro e
 subst e
 unfold Blk at hb
 rw [hg] at hb
 simp at hb
 exact hT hb.2.1.symm
theorem Row.nil : Row S T s w (.slice none 0 0) 0 []:=⟨by simp,.inl ⟨rfl,rfl⟩⟩
theorem Row.len_le (h : Row S T s w v n cs) : n ≤ maxLen:=by
 rcases h.2 with ⟨_,h2⟩ | ⟨b,off,cap,arr,fr,hv,h1,h2,_⟩
 ·omega
 omega
theorem Row.slice (h : Row S T s w v n cs) : ∃ a cap,v = .slice a n cap ∧ n ≤ cap:=by
 rcases h.2 with ⟨h1,h2⟩ | ⟨b,off,cap,arr,fr,hv,h1,h2,_⟩
 ·exact ⟨none,0,by rw [h1,h2],by omega⟩
 exact ⟨_,cap,hv,h1⟩
theorem Row.cell (h : Row S T s w v n cs) {i : Nat} {u : Value} (hu : cs[i]? = some u) : w.cell? (adr v i) = some u:=by
 rcases h.2 with ⟨h1,h2⟩ | ⟨b,off,cap,arr,fr,hv,h1,h2,_,hg,h3,h4⟩
 ·subst h2
  have:=h.1
  simp at this
  subst this
  simp at hu
 subst hv
 show w.cell? ⟨b,off + i,none⟩ = some u
 simp only [World.cell?,hg]
 rw [← h4,List.getElem?_take] at hu
 split at hu
 ·simpa using hu
 cases hu
theorem Row.cut3 (h : Row S T s w v n cs) (m : Nat) (hm : m ≤ n) : ∃ a cap,v = .slice a n cap ∧ n ≤ cap ∧ Row S T s w (.slice a m m) m (cs.take (m * s)):=by
 have hmul : m * s ≤ n * s:=Nat.mul_le_mul_right _ hm
 rcases h.2 with ⟨h1,h2⟩ | ⟨b,off,cap,arr,fr,hv,h1,h2,hs,hg,h3,h4⟩
 ·subst h2
  obtain rfl : m = 0:=by omega
  exact ⟨none,0,h1,Nat.le_refl _,by simp,.inl ⟨rfl,rfl⟩⟩
 refine ⟨_,cap,hv,h1,by rw [List.length_take,h.1]; omega,.inr ⟨b,off,m,arr,fr,rfl,Nat.le_refl _,by omega,hs,hg,?_,?_⟩⟩
 ·have : m * s ≤ cap * s:=Nat.mul_le_mul_right _ (by omega)
  omega
 rw [← h4,List.take_take]
 congr 1
 omega
theorem Row.of_blk {b cap : Nat} {ds : List Value} (hb : Blk w b T ds) (hS : S b) (hn : n ≤ cap) (hm : cap ≤ maxLen) (hl : cap * s = ds.length) :
  Row S T s w (.slice (some ⟨b,0,none⟩) n cap) n (ds.take (n * s)):=by
 have : n * s ≤ cap * s:=Nat.mul_le_mul_right _ hn
 refine ⟨by rw [List.length_take]; omega,.inr ⟨b,0,cap,ds.toArray,(0,0),rfl,hn,hm,hS,hb,by simp; omega,by simp⟩⟩
theorem Row.of_own {base : Nat} (h : w.ownsRow base T s v n cs) (hS : ∀ k,base ≤ k → S k) : Row S T s w v n cs:=by
 refine ⟨h.1,?_⟩
 rcases h.2 with h2 | ⟨g,cap,cur,hv,hg,hh,hn,hm,hc,ht⟩
 ·exact .inl h2
 exact .inr ⟨g,0,cap,cur,(0,0),hv,hn,hm,hS g hg,hh,by omega,by simpa using ht⟩
end
theorem Keeps.of_grown {w w' : World} {r : Option Nat} (h : w.grownBy w' r) : Keeps (fun k=>some k ≠ r) w w':=
 ⟨h.os,h.tape,h.output,h.size,fun k hk hr=>h.block k hk hr⟩
def bb6 : Option TypeDesc → Option Bool
 | some (.struct _)=>some true
 | some (.array _ _)=>some true
 | some _=>some false
 | none=>none
class TyI (P : Program) (T : TypeId) (s b : outParam Nat) (z : outParam Value) (agg : outParam Bool) : Prop where
 info : (P.info? T).map (fun i=>(i.size,i.bytes,i.zero)) = some (s,b,some z)
 zsize : z.cells.size = s
 aggp : bb6 (P.underlying T) = some agg
class SlT (P : Program) (t : TypeId) (T : outParam TypeId) : Prop where
 und : P.underlying t = some (.slice T)
class FldT (P : Program) (T : TypeId) (f : Nat) (off : outParam Nat) : Prop where
 fld : ∃ fs fd i,P.underlying T = some (.struct fs) ∧ fs[f]? = some fd ∧ fd.offset = off ∧ P.info? fd.type = some i ∧ i.size ≠ 0
theorem TyI.ex {P : Program} {T : TypeId} {s b : Nat} {z : Value} {agg : Bool} (h : TyI P T s b z agg) : ∃ i,P.info? T = some i ∧ i.size = s ∧ i.bytes = b ∧ i.zero = some z:=by
 have h1:=h.info
 cases hi : P.info? T with
 | none=>rw [hi] at h1; cases h1
 | some i=>rw [hi] at h1; simp at h1; exact ⟨i,rfl,h1⟩
theorem TyI.runAgg {P : Program} {T : TypeId} {s b : Nat} {z : Value} {agg : Bool} (h : TyI P T s b z agg) (w : World) : (isAgg T).run P w = .ok agg w:=by
 have h1:=h.aggp
 cases hu : P.underlying T with
 | none=>rw [hu] at h1; cases h1
 | some d=>
  rw [hu] at h1
  cases d <;> simp [bb6] at h1 <;> subst h1 <;> simp [isAgg,run_underlying hu]
class IntT (P : Program) (t : TypeId) (k : outParam IntKind) : Prop where
 und : P.underlying t = some (.int k)
class StrT (P : Program) (t : TypeId) : Prop where
 und : P.underlying t = some .string
class BoolT (P : Program) (t : TypeId) : Prop where
 und : P.underlying t = some .bool
class CallI (P : Program) (f : FuncId) : Prop where
 run : ∀ args w,(callFunc f args).run P w = .ok (.enter f args) w
theorem TyI.runSize {P : Program} {T : TypeId} {s b : Nat} {z : Value} {agg : Bool} (h : TyI P T s b z agg) (w : World) : (sizeOf T).run P w = .ok s w:=by
 obtain ⟨i,hi,h1,_⟩:=h.ex
 simp [sizeOf,typeInfo,hi,h1]
theorem TyI.runZero {P : Program} {T : TypeId} {s b : Nat} {z : Value} {agg : Bool} (h : TyI P T s b z agg) (w : World) : (zeroValue T).run P w = .ok z w:=by
 obtain ⟨i,hi,_,_,h1⟩:=h.ex
 simp [zeroValue,typeInfo,hi,h1]
theorem ac4 {P : Program} {T : TypeId} {s b : Nat} {z : Value} (h : TyI P T s b z false) {w : World} {p : Addr} {u : Value} (hc : w.cell? p = some u) : (loadVar T p).run P w = .ok u w:=by
 simp [loadVar,h.runAgg w,load,Sem.run,hc]
theorem bo0 {P : Program} {w : World} {b : Nat} : ∀ (cs : List Value) (o k : Nat) (acc : Array Value),(∀ i,i < cs.length → w.cell? ⟨b,o + k + i,none⟩ = cs[i]?) →
  (loadCellsFrom ⟨b,o,none⟩ k cs.length acc).run P w = .ok (acc ++ cs.toArray) w:=by
 intro cs
 induction cs with
 | nil=>intro o k acc _; simp [loadCellsFrom]
 | cons c cs ih=>
  intro o k acc h
  have h0:=h 0 (by simp)
  have ha : (⟨b,o,none⟩ : Addr).add k = ⟨b,o + k,none⟩:=by
   unfold Addr.add
   split <;> simp_all
  have h1:=ih o (k + 1) (acc.push c) (fun i hi=>by
   have:=h (i + 1) (by simp; omega)
   rw [← Nat.add_assoc,show o + k + 1 + i = o + k + (i + 1) from by omega]
   simpa using this)
  simp only [List.length_cons,loadCellsFrom]
  simp only [Nat.add_zero,List.getElem?_cons_zero] at h0
  simp [ha,load,Sem.run,h0,h1]
theorem aq9 {P : Program} {T : TypeId} {s b : Nat} {z : Value} (h : TyI P T s b z true) {w : World} {g o : Nat} {us : List Value} (hl : us.length = s)
  (hc : ∀ i,i < us.length → w.cell? ⟨g,o + i,none⟩ = us[i]?) : (loadVar T ⟨g,o,none⟩).run P w = .ok (.agg us.toArray) w:=by
 have h1:=bo0 (P:=P) us o 0 #[] (by simpa using hc)
 subst hl
 simp [loadVar,h.runAgg w,h.runSize w,loadCells,h1]
theorem wrap_i64 {x : Int} (h0 : -9223372036854775808 ≤ x) (h1 : x ≤ 9223372036854775807) : IntKind.i64.wrap x = x:=by rw [IntKind.wrap_i64]; omega
theorem as9 {x : Int} (h0 : 0 ≤ x) (h1 : x ≤ 18446744073709551615) : IntKind.u64.wrap x = x:=by simp [IntKind.wrap,IntKind.signed,IntKind.bits]; omega
theorem ah5 {x : Int} (h0 : 0 ≤ x) (h1 : x ≤ 4294967295) : IntKind.u32.wrap x = x:=by simp [IntKind.wrap,IntKind.signed,IntKind.bits]; omega
theorem dj5 {x : Int} (h0 : 0 ≤ x) (h1 : x ≤ 255) : IntKind.u8.wrap x = x:=by simp [IntKind.wrap,IntKind.signed,IntKind.bits]; omega
section rules
variable {P : Program} {n : Nat} {Q : G3} {ρ : Fr} {w : World} {all rest : List Oper} {d : Tmp} {ty : TypeId} {pos : String} {aft : Array Edge}
theorem F6 {o : Oper} {d : Tmp} {v : Value} (hd : o.dst = some d) (hg : o.guard = none) (hr : (execOp (ev ρ) o).run P w = .ok (.value v) w) (h : WpR P n all Q rest (upd ρ d v) w) :
  WpR P n all Q (o :: rest) ρ w:=by
 refine bm7 hg ?_
 unfold Stp
 rw [hr]
 simp only [hd,ap4]
 exact h
theorem ak1 {o : Oper} {d : Tmp} {v : Value} {w' : World} (hd : o.dst = some d) (hg : o.guard = none) (hr : (execOp (ev ρ) o).run P w = .ok (.value v) w') (h : WpR P n all Q rest (upd ρ d v) w') :
  WpR P n all Q (o :: rest) ρ w:=by
 refine bm7 hg ?_
 unfold Stp
 rw [hr]
 simp only [hd,ap4]
 exact h
theorem bw4 {o : Oper} {w' : World} (hd : o.dst = none) (hg : o.guard = none) (hr : (execOp (ev ρ) o).run P w = .ok .skip w') (h : WpR P n all Q rest ρ w') :
  WpR P n all Q (o :: rest) ρ w:=by
 refine bm7 hg ?_
 unfold Stp
 rw [hr]
 simp only [hd,ap4]
 exact h
theorem cc6 {x : Operand} {v : Value} (hv : ev ρ x = v) (h : WpR P n all Q rest (upd ρ d v) w) : WpR P n all Q (⟨some d,.move x,ty,pos,aft,none⟩ :: rest) ρ w:=
 F6 rfl rfl (by subst hv; rfl) h
theorem r7 {x : Operand} {v : Value} (h : WpR P n all Q rest (upd ρ d v) w) (hv : ev ρ x = v:=by conv=>(lhs; whnf)) : WpR P n all Q (⟨some d,.move x,ty,pos,aft,none⟩ :: rest) ρ w:=
 cc6 hv h
theorem b15 {x : Operand} {v : Value} (hv : ev ρ x = v) (h : WpR P n all Q rest (upd ρ d v) w) : WpR P n all Q (⟨some d,.assign x,ty,pos,aft,none⟩ :: rest) ρ w:=
 F6 rfl rfl (by subst hv; rfl) h
theorem br2 {x : Operand} {v : Value} (h : WpR P n all Q rest (upd ρ d v) w) (hv : ev ρ x = v:=by conv=>(lhs; whnf)) : WpR P n all Q (⟨some d,.assign x,ty,pos,aft,none⟩ :: rest) ρ w:=
 b15 hv h
theorem wW {X g : Prop} (h : X) (e : X → g:=by first | exact fun h=>D3 h | exact fun h=>aa7 h | exact fun h=>r7 h | exact fun h=>br2 h | exact fun h=>d6 h | exact fun h=>N7 h | exact fun h=>wp_ret h) : g:=e h
theorem b19 {c x y : Operand} {v : Value} (hc : ev ρ c = .bool true) (hv : ev ρ x = v) (h : WpR P n all Q rest (upd ρ d v) w) : WpR P n all Q (⟨some d,.pick c x y,ty,pos,aft,none⟩ :: rest) ρ w:=
 F6 rfl rfl (by subst hv; simp [execOp,hc,asBool]) h
theorem s9 {c x y : Operand} {v : Value} (hc : ev ρ c = .bool true) (h : WpR P n all Q rest (upd ρ d v) w) (hv : ev ρ x = v:=by conv=>(lhs; whnf)) : WpR P n all Q (⟨some d,.pick c x y,ty,pos,aft,none⟩ :: rest) ρ w:=
 b19 hc hv h
theorem bu2 {c x y : Operand} {v : Value} (hc : ev ρ c = .bool false) (hv : ev ρ y = v) (h : WpR P n all Q rest (upd ρ d v) w) : WpR P n all Q (⟨some d,.pick c x y,ty,pos,aft,none⟩ :: rest) ρ w:=
 F6 rfl rfl (by subst hv; simp [execOp,hc,asBool]) h
theorem q8 {c x y : Operand} {v : Value} (hc : ev ρ c = .bool false) (h : WpR P n all Q rest (upd ρ d v) w) (hv : ev ρ y = v:=by conv=>(lhs; whnf)) : WpR P n all Q (⟨some d,.pick c x y,ty,pos,aft,none⟩ :: rest) ρ w:=
 bu2 hc hv h
theorem B5 {t T : TypeId} [st : SlT P t T] {x : Operand} {S : Nat → Prop} {s : Nat} {w0 : World} {v : Value} {m : Nat} {cs : List Value} (hv : ev ρ x = v) (hr : Row S T s w0 v m cs)
  (h : WpR P n all Q rest (upd ρ d (.int .i64 m)) w) : WpR P n all Q (⟨some d,.call ⟨.builtin .len,#[x],#[t]⟩,ty,pos,aft,none⟩ :: rest) ρ w:=by
 obtain ⟨a,cap,hs,_⟩:=hr.slice
 refine F6 rfl rfl ?_ h
 subst hs
 simp [execOp,resolve,invoke,builtin,hv,Builtin.len_,run_underlying st.und,goInt]
theorem c99 {t T : TypeId} [st : SlT P t T] {x : Operand} {a : Option Addr} {m cap : Nat} (hv : ev ρ x = .slice a m cap)
  (h : WpR P n all Q rest (upd ρ d (.int .i64 m)) w) : WpR P n all Q (⟨some d,.call ⟨.builtin .len,#[x],#[t]⟩,ty,pos,aft,none⟩ :: rest) ρ w:=by
 refine F6 rfl rfl ?_ h
 simp [execOp,resolve,invoke,builtin,hv,Builtin.len_,run_underlying st.und,goInt]
theorem bp4 {t : TypeId} [st : StrT P t] {x : Operand} {s : ByteArray} (hv : ev ρ x = .string s)
  (h : WpR P n all Q rest (upd ρ d (.int .i64 s.size)) w) : WpR P n all Q (⟨some d,.call ⟨.builtin .len,#[x],#[t]⟩,ty,pos,aft,none⟩ :: rest) ρ w:=by
 refine F6 rfl rfl ?_ h
 simp [execOp,resolve,invoke,builtin,hv,Builtin.len_,run_underlying st.und,goInt]
theorem aj1 {op : BinOp} {x y : Operand} {xt yt : TypeId} {k : IntKind} {a b c : Int} (hx : ev ρ x = .int k a) (hy : ev ρ y = .int k b)
  (ho : (op = .add ∧ k.wrap (a + b) = c) ∨ (op = .sub ∧ k.wrap (a - b) = c) ∨ (op = .mul ∧ k.wrap (a * b) = c))
  (h : WpR P n all Q rest (upd ρ d (.int k c)) w) : WpR P n all Q (⟨some d,.binOp op xt x y yt,ty,pos,aft,none⟩ :: rest) ρ w:=by
 refine F6 rfl rfl ?_ h
 rcases ho with ⟨rfl,rfl⟩ | ⟨rfl,rfl⟩ | ⟨rfl,rfl⟩ <;> simp [execOp,hx,hy,eqGuard,binOp,Op.intArith]
theorem db7 {x y : Operand} {xt yt : TypeId} {a b : Int} (hx : ev ρ x = .int .i64 a) (hy : ev ρ y = .int .i64 b) (h0 : -9223372036854775808 ≤ a + b) (h1 : a + b ≤ 9223372036854775807)
  (h : WpR P n all Q rest (upd ρ d (.int .i64 (a + b))) w) : WpR P n all Q (⟨some d,.binOp .add xt x y yt,ty,pos,aft,none⟩ :: rest) ρ w:=
 aj1 hx hy (.inl ⟨rfl,wrap_i64 h0 h1⟩) h
theorem E6 {x y : Operand} {xt yt : TypeId} {a b : Int} (hx : ev ρ x = .int .i64 a) (hy : ev ρ y = .int .i64 b) (h : WpR P n all Q rest (upd ρ d (.int .i64 (a + b))) w) (h0 : -9223372036854775808 ≤ a + b:=by omega) (h1 : a + b ≤ 9223372036854775807:=by omega) : WpR P n all Q (⟨some d,.binOp .add xt x y yt,ty,pos,aft,none⟩ :: rest) ρ w:=
 db7 hx hy h0 h1 h
theorem dz3 {x y : Operand} {xt yt : TypeId} {a b : Int} (hx : ev ρ x = .int .i64 a) (hy : ev ρ y = .int .i64 b) (h0 : -9223372036854775808 ≤ a - b) (h1 : a - b ≤ 9223372036854775807)
  (h : WpR P n all Q rest (upd ρ d (.int .i64 (a - b))) w) : WpR P n all Q (⟨some d,.binOp .sub xt x y yt,ty,pos,aft,none⟩ :: rest) ρ w:=
 aj1 hx hy (.inr (.inl ⟨rfl,wrap_i64 h0 h1⟩)) h
theorem A3 {x y : Operand} {xt yt : TypeId} {a b : Int} (hx : ev ρ x = .int .i64 a) (hy : ev ρ y = .int .i64 b) (h : WpR P n all Q rest (upd ρ d (.int .i64 (a - b))) w) (h0 : -9223372036854775808 ≤ a - b:=by omega) (h1 : a - b ≤ 9223372036854775807:=by omega) : WpR P n all Q (⟨some d,.binOp .sub xt x y yt,ty,pos,aft,none⟩ :: rest) ρ w:=
 dz3 hx hy h0 h1 h
theorem bf8 {x y : Operand} {xt yt : TypeId} {a b : Int} (hx : ev ρ x = .int .i64 a) (hy : ev ρ y = .int .i64 b) (h0 : -9223372036854775808 ≤ a * b) (h1 : a * b ≤ 9223372036854775807)
  (h : WpR P n all Q rest (upd ρ d (.int .i64 (a * b))) w) : WpR P n all Q (⟨some d,.binOp .mul xt x y yt,ty,pos,aft,none⟩ :: rest) ρ w:=
 aj1 hx hy (.inr (.inr ⟨rfl,wrap_i64 h0 h1⟩)) h
theorem dv1 {x y : Operand} {xt yt : TypeId} {a b : Int} (hx : ev ρ x = .int .u64 a) (hy : ev ρ y = .int .u64 b) (h0 : 0 ≤ a + b) (h1 : a + b ≤ 18446744073709551615)
  (h : WpR P n all Q rest (upd ρ d (.int .u64 (a + b))) w) : WpR P n all Q (⟨some d,.binOp .add xt x y yt,ty,pos,aft,none⟩ :: rest) ρ w:=
 aj1 hx hy (.inl ⟨rfl,as9 h0 h1⟩) h
theorem dz1 {x y : Operand} {xt yt : TypeId} {a b : Int} (hx : ev ρ x = .int .u64 a) (hy : ev ρ y = .int .u64 b) (h0 : 0 ≤ a * b) (h1 : a * b ≤ 18446744073709551615)
  (h : WpR P n all Q rest (upd ρ d (.int .u64 (a * b))) w) : WpR P n all Q (⟨some d,.binOp .mul xt x y yt,ty,pos,aft,none⟩ :: rest) ρ w:=
 aj1 hx hy (.inr (.inr ⟨rfl,as9 h0 h1⟩)) h
theorem dw2 {x y : Operand} {xt yt : TypeId} {a b : Int} (hx : ev ρ x = .int .u32 a) (hy : ev ρ y = .int .u32 b) (h0 : 0 ≤ a + b) (h1 : a + b ≤ 4294967295)
  (h : WpR P n all Q rest (upd ρ d (.int .u32 (a + b))) w) : WpR P n all Q (⟨some d,.binOp .add xt x y yt,ty,pos,aft,none⟩ :: rest) ρ w:=
 aj1 hx hy (.inl ⟨rfl,ah5 h0 h1⟩) h
theorem dx1 {x y : Operand} {xt yt : TypeId} {a b : Int} (hx : ev ρ x = .int .u32 a) (hy : ev ρ y = .int .u32 b) (h0 : 0 ≤ a - b) (h1 : a - b ≤ 4294967295)
  (h : WpR P n all Q rest (upd ρ d (.int .u32 (a - b))) w) : WpR P n all Q (⟨some d,.binOp .sub xt x y yt,ty,pos,aft,none⟩ :: rest) ρ w:=
 aj1 hx hy (.inr (.inl ⟨rfl,ah5 h0 h1⟩)) h
theorem da2 {x y : Operand} {xt yt : TypeId} {k : IntKind} {a b c : Int} (hx : ev ρ x = .int k a) (hy : ev ρ y = .int k b) (hb : b ≠ 0) (hc : k.wrap (a.tdiv b) = c)
  (h : WpR P n all Q rest (upd ρ d (.int k c)) w) : WpR P n all Q (⟨some d,.binOp .quo xt x y yt,ty,pos,aft,none⟩ :: rest) ρ w:=by
 refine F6 rfl rfl ?_ h
 simp [execOp,hx,hy,eqGuard,binOp,Op.intDiv,hb,hc]
theorem ds1 {x y : Operand} {xt yt : TypeId} {k : IntKind} {a b : Int} (hx : ev ρ x = .int k a) (hy : ev ρ y = .int k b) (hb : b ≠ 0)
  (h : WpR P n all Q rest (upd ρ d (.int k (a.tmod b))) w) : WpR P n all Q (⟨some d,.binOp .rem xt x y yt,ty,pos,aft,none⟩ :: rest) ρ w:=by
 refine F6 rfl rfl ?_ h
 simp [execOp,hx,hy,eqGuard,binOp,Op.intDiv,hb]
theorem bk4 {a b : Int} (ha : 0 ≤ a) : a.tdiv b = a / b:=Int.tdiv_eq_ediv_of_nonneg ha
theorem ca0 {a b : Int} (ha : 0 ≤ a) : a.tmod b = a % b:=Int.tmod_eq_emod_of_nonneg ha
theorem cp3 {a b : Int} (ha : 0 ≤ a) (hb : 0 < b) : 0 ≤ a / b ∧ a / b ≤ a:=⟨Int.ediv_nonneg ha (Int.le_of_lt hb),Int.ediv_le_self _ ha⟩
theorem as0 {x y : Operand} {xt yt : TypeId} {a b : Int} (hx : ev ρ x = .int .i64 a) (hy : ev ρ y = .int .i64 b) (ha : 0 ≤ a) (hb : 0 < b) (h1 : a ≤ 9223372036854775807)
  (h : WpR P n all Q rest (upd ρ d (.int .i64 (a / b))) w) : WpR P n all Q (⟨some d,.binOp .quo xt x y yt,ty,pos,aft,none⟩ :: rest) ρ w:=
 da2 hx hy (by omega) (by have:=cp3 ha hb; rw [bk4 ha]; exact wrap_i64 (by omega) (by omega)) h
theorem cj6 {x y : Operand} {xt yt : TypeId} {a b : Int} (hx : ev ρ x = .int .u64 a) (hy : ev ρ y = .int .u64 b) (ha : 0 ≤ a) (hb : 0 < b) (h1 : a ≤ 18446744073709551615)
  (h : WpR P n all Q rest (upd ρ d (.int .u64 (a / b))) w) : WpR P n all Q (⟨some d,.binOp .quo xt x y yt,ty,pos,aft,none⟩ :: rest) ρ w:=
 da2 hx hy (by omega) (by have:=cp3 ha hb; rw [bk4 ha]; exact as9 (by omega) (by omega)) h
theorem as2 {x y : Operand} {xt yt : TypeId} {k : IntKind} {a b : Int} (hx : ev ρ x = .int k a) (hy : ev ρ y = .int k b) (ha : 0 ≤ a) (hb : 0 < b)
  (h : WpR P n all Q rest (upd ρ d (.int k (a % b))) w) : WpR P n all Q (⟨some d,.binOp .rem xt x y yt,ty,pos,aft,none⟩ :: rest) ρ w:=
 ds1 hx hy (by omega) (by rwa [ca0 ha])
theorem b24 {op : BinOp} {x y : Operand} {xt yt : TypeId} {k : IntKind} {a b : Int} {p : Prop} (hx : ev ρ x = .int k a) (hy : ev ρ y = .int k b)
  (ho : (op = .eql ∧ p = (a = b)) ∨ (op = .neq ∧ p = (a ≠ b)) ∨ (op = .lss ∧ p = (a < b)) ∨ (op = .leq ∧ p = (a ≤ b)) ∨ (op = .gtr ∧ p = (b < a)) ∨ (op = .geq ∧ p = (b ≤ a)))
  (h : WpR P n all Q rest (upd ρ d (.bool (tst p))) w) : WpR P n all Q (⟨some d,.binOp op xt x y yt,ty,pos,aft,none⟩ :: rest) ρ w:=by
 refine F6 rfl rfl ?_ h
 have e1 : (a == b) = tst (a = b):=by rw [← R3,Bool.eq_iff_iff]; simp
 have e2 : (a != b) = tst (a ≠ b):=by rw [← R3,Bool.eq_iff_iff]; simp
 rcases ho with ⟨rfl,h⟩ | ⟨rfl,h⟩ | ⟨rfl,h⟩ | ⟨rfl,h⟩ | ⟨rfl,h⟩ | ⟨rfl,h⟩ <;> subst h <;> simp [execOp,hx,hy,eqGuard,binOp,Op.intCmp,e1,e2,R3]
section
variable {x y : Operand} {xt yt : TypeId} {k : IntKind} {a b : Int} (hx : ev ρ x = .int k a) (hy : ev ρ y = .int k b)
include hx hy
theorem ac6 (h : WpR P n all Q rest (upd ρ d (.bool (tst (a = b)))) w) : WpR P n all Q (⟨some d,.binOp .eql xt x y yt,ty,pos,aft,none⟩ :: rest) ρ w:=b24 hx hy (.inl ⟨rfl,rfl⟩) h
theorem by7 (h : WpR P n all Q rest (upd ρ d (.bool (tst (a ≠ b)))) w) : WpR P n all Q (⟨some d,.binOp .neq xt x y yt,ty,pos,aft,none⟩ :: rest) ρ w:=b24 hx hy (.inr (.inl ⟨rfl,rfl⟩)) h
theorem O6 (h : WpR P n all Q rest (upd ρ d (.bool (tst (a < b)))) w) : WpR P n all Q (⟨some d,.binOp .lss xt x y yt,ty,pos,aft,none⟩ :: rest) ρ w:=b24 hx hy (.inr (.inr (.inl ⟨rfl,rfl⟩))) h
theorem Z3 (h : WpR P n all Q rest (upd ρ d (.bool (tst (b < a)))) w) : WpR P n all Q (⟨some d,.binOp .gtr xt x y yt,ty,pos,aft,none⟩ :: rest) ρ w:=b24 hx hy (.inr (.inr (.inr (.inr (.inl ⟨rfl,rfl⟩))))) h
theorem aj0 (h : WpR P n all Q rest (upd ρ d (.bool (tst (b ≤ a)))) w) : WpR P n all Q (⟨some d,.binOp .geq xt x y yt,ty,pos,aft,none⟩ :: rest) ρ w:=b24 hx hy (.inr (.inr (.inr (.inr (.inr ⟨rfl,rfl⟩))))) h
end
theorem Q5 {src dst : TypeId} {x : Operand} {k0 k k' : IntKind} [ss : IntT P src k0] [sd : IntT P dst k'] {a c : Int} (hx : ev ρ x = .int k a) (hc : k'.wrap a = c)
  (h : WpR P n all Q rest (upd ρ d (.int k' c)) w) : WpR P n all Q (⟨some d,.convert src dst x,ty,pos,aft,none⟩ :: rest) ρ w:=by
 refine F6 rfl rfl ?_ h
 simp [execOp,hx,convert,run_underlying ss.und,run_underlying sd.und,Conv.intToInt,hc]
theorem bt7 {t T : TypeId} [st : SlT P t T] {s b : Nat} {z : Value} {agg : Bool} [ti : TyI P T s b z agg] {x ix : Operand} {S : Nat → Prop} {w0 : World} {v : Value} {m : Nat} {cs : List Value} {i : Int} {k : IntKind}
  (hv : ev ρ x = v) (hi : ev ρ ix = .int k i) (hr : Row S T s w0 v m cs) (h0 : 0 ≤ i) (h1 : i < m)
  (h : WpR P n all Q rest (upd ρ d (.pointer (some (adr v (i.toNat * s))))) w) : WpR P n all Q (⟨some d,.indexAddr t x ix,ty,pos,aft,none⟩ :: rest) ρ w:=by
 rcases hr.2 with ⟨_,h2⟩ | ⟨g,off,cap,arr,fr,hv2,_⟩
 ·omega
 refine F6 rfl rfl ?_ h
 subst hv2
 have ha : (⟨g,off,none⟩ : Addr).add (i.toNat * s) = ⟨g,off + i.toNat * s,none⟩:=by
  unfold Addr.add
  split <;> simp_all
 simp [execOp,hv,hi,Instr.indexAt,asIntOf,run_underlying st.und,h0,h1,ti.runSize w,adr,ha]
theorem cj8 {t T : TypeId} [st : SlT P t T] {s b : Nat} {z : Value} {agg : Bool} [ti : TyI P T s b z agg] {x ix : Operand} {g off m cap : Nat} {i : Int} {k : IntKind}
  (hv : ev ρ x = .slice (some ⟨g,off,none⟩) m cap) (hi : ev ρ ix = .int k i) (h0 : 0 ≤ i) (h1 : i < m)
  (h : WpR P n all Q rest (upd ρ d (.pointer (some ⟨g,off + i.toNat * s,none⟩))) w) : WpR P n all Q (⟨some d,.indexAddr t x ix,ty,pos,aft,none⟩ :: rest) ρ w:=by
 refine F6 rfl rfl ?_ h
 have ha : (⟨g,off,none⟩ : Addr).add (i.toNat * s) = ⟨g,off + i.toNat * s,none⟩:=by
  unfold Addr.add
  split <;> simp_all
 simp [execOp,hv,hi,Instr.indexAt,asIntOf,run_underlying st.und,h0,h1,ti.runSize w,ha]
theorem ay1 {t : TypeId} {x : Operand} {p : Addr} {u : Value} (hx : ev ρ x = .pointer (some p)) (hl : (loadVar t p).run P w = .ok u w)
  (h : WpR P n all Q rest (upd ρ d u) w) : WpR P n all Q (⟨some d,.load t x,ty,pos,aft,none⟩ :: rest) ρ w:=by
 refine F6 rfl rfl ?_ h
 simp [execOp,hx,Instr.loadAt,Instr.sureAddr,hl]
theorem bg7 {T : TypeId} {b : Nat} {z : Value} [ti : TyI P T 1 b z false] {x : Operand} {S : Nat → Prop} {v : Value} {m i : Nat} {cs : List Value} {u : Value}
  (hx : ev ρ x = .pointer (some (adr v i))) (hr : Row S T 1 w v m cs) (hu : cs[i]? = some u) (h : WpR P n all Q rest (upd ρ d u) w) :
  WpR P n all Q (⟨some d,.load T x,ty,pos,aft,none⟩ :: rest) ρ w:=
 ay1 hx (ac4 ti (hr.cell hu)) h
theorem i1 {t : TypeId} {s b : Nat} {z : Value} [ti : TyI P t s b z false] {x : Operand} {g i : Nat} {T : TypeId} {cs : List Value} {u : Value}
  (hx : ev ρ x = .pointer (some ⟨g,i,none⟩)) (hb : Blk w g T cs) (hu : cs[i]? = some u) (h : WpR P n all Q rest (upd ρ d u) w) :
  WpR P n all Q (⟨some d,.load t x,ty,pos,aft,none⟩ :: rest) ρ w:=
 ay1 hx (ac4 ti (hb.cell hu)) h
theorem o5 {t : TypeId} {s b : Nat} {z : Value} [ti : TyI P t s b z true] {x : Operand} {g : Nat} {T : TypeId} {cs : List Value}
  (hx : ev ρ x = .pointer (some ⟨g,0,none⟩)) (hb : Blk w g T cs) (hs : cs.length = s) (h : WpR P n all Q rest (upd ρ d (.agg cs.toArray)) w) :
  WpR P n all Q (⟨some d,.load t x,ty,pos,aft,none⟩ :: rest) ρ w:=
 ay1 hx (aq9 ti hs fun i hi=>by rw [Nat.zero_add,List.getElem?_eq_getElem hi]; exact hb.cell (List.getElem?_eq_getElem hi)) h
theorem bp6 {T : TypeId} {x : Operand} {v : Value} {cs : List Value} (hx : ev ρ x = v) (hc : v.cells = cs.toArray)
  (h : ∀ w' b,Ext w w' → Blk w' b T cs → w.heap.size ≤ b → WpR P n all Q rest (upd ρ d (.pointer (some ⟨b,0,none⟩))) w') :
  WpR P n all Q (⟨some d,.box T x,ty,pos,aft,none⟩ :: rest) ρ w:=by
 refine ak1 (w':=w.alloc (.cells cs.toArray T)) rfl rfl ?_ (h _ w.heap.size (Q3 _ _) (Blk.new _ _ _) (Nat.le_refl _))
 simp [execOp,hx,Instr.box,newVar,newRow,hc]
theorem z8 {T : TypeId} {x : Operand} {v : Value} {cs : List Value} (hc : v.cells = cs.toArray) (h : ∀ w' b,Ext w w' → Blk w' b T cs → w.heap.size ≤ b → WpR P n all Q rest (upd ρ d (.pointer (some ⟨b,0,none⟩))) w') (hx : ev ρ x = v:=by conv=>(lhs; whnf)) : WpR P n all Q (⟨some d,.box T x,ty,pos,aft,none⟩ :: rest) ρ w:=
 bp6 hx hc h
theorem al0 {v : Value} (h : v.oneCell' = true) : v.cells = [v].toArray:=by cases v <;> first | rfl | cases h
theorem Row.one {S : Nat → Prop} {T : TypeId} {s : Nat} {w : World} {v : Value} {m : Nat} {cs : List Value} (h : Row S T s w v m cs) : v.oneCell' = true:=by
 obtain ⟨a,cap,rfl,_⟩:=h.slice
 rfl
theorem a84 {T : TypeId} {x : Operand} {v : Value} (hx : ev ρ x = v) (h1 : v.oneCell' = true)
  (h : ∀ w' b,Ext w w' → Blk w' b T [v] → w.heap.size ≤ b → WpR P n all Q rest (upd ρ d (.pointer (some ⟨b,0,none⟩))) w') :
  WpR P n all Q (⟨some d,.box T x,ty,pos,aft,none⟩ :: rest) ρ w:=bp6 hx (al0 h1) h
theorem r5 {T : TypeId} {s b : Nat} {z : Value} {agg : Bool} [ti : TyI P T s b z agg] {cs : List Value} (hc : z.cells = cs.toArray)
  (h : ∀ w' b,Ext w w' → Blk w' b T cs → w.heap.size ≤ b → WpR P n all Q rest (upd ρ d (.pointer (some ⟨b,0,none⟩))) w') :
  WpR P n all Q (⟨some d,.alloc T,ty,pos,aft,none⟩ :: rest) ρ w:=by
 refine ak1 (w':=w.alloc (.cells cs.toArray T)) rfl rfl ?_ (h _ w.heap.size (Q3 _ _) (Blk.new _ _ _) (Nat.le_refl _))
 simp [execOp,Instr.alloc,ti.runZero w,newVar,newRow,hc]
theorem l6 {T : TypeId} {f off : Nat} [ft : FldT P T f off] {x : Operand} {g o : Nat} (hx : ev ρ x = .pointer (some ⟨g,o,none⟩))
  (h : WpR P n all Q rest (upd ρ d (.pointer (some ⟨g,o + off,none⟩))) w) : WpR P n all Q (⟨some d,.fieldAddr T x f,ty,pos,aft,none⟩ :: rest) ρ w:=by
 obtain ⟨fs,fd,i,h1,h2,h3,h4,h5⟩:=ft.fld
 refine F6 rfl rfl ?_ h
 have ha : (⟨g,o,none⟩ : Addr).add off = ⟨g,o + off,none⟩:=by
  unfold Addr.add
  split <;> simp_all
 simp [execOp,hx,Instr.fieldAt,run_underlying h1,h2,Instr.sureAddr,fieldPlace,sizeOf,typeInfo,h4,h5,h3,ha]
theorem L6 {t : TypeId} {b : Nat} {z : Value} {agg : Bool} [ti : TyI P t 1 b z agg] {x y : Operand} {g i : Nat} {T : TypeId} {cs : List Value} {u : Value}
  (hx : ev ρ x = .pointer (some ⟨g,i,none⟩)) (hy : ev ρ y = u) (hb : Blk w g T cs) (hi : i < cs.length) (h1 : u.oneCell' = true)
  (h : ∀ w',Wrt g w w' → Blk w' g T (cs.set i u) → WpR P n all Q rest ρ w') : WpR P n all Q (⟨none,.store t x y,ty,pos,aft,none⟩ :: rest) ρ w:=by
 refine bw4 (w':=w.setCell ⟨g,i,none⟩ u) rfl rfl ?_ (h _ (b07 w ⟨g,i,none⟩ u) (hb.set u))
 have hc : u.cells = #[u]:=by cases u <;> first | rfl | cases h1
 have h2:=run_store P w ⟨g,i,none⟩ u .plain h1
 rw [hb.cell (List.getElem?_eq_getElem hi),hb.free] at h2
 simp only [Bool.false_eq_true,if_false] at h2
 have h3 : (⟨g,i,none⟩ : Addr).add 0 = ⟨g,i,none⟩:=rfl
 simp [execOp,hx,hy,Instr.storeAt,Instr.sureAddr,storeVar,ti.runSize w,hc,storeCells,h3,h2]
theorem A5 {t : TypeId} {s b : Nat} {z : Value} {agg : Bool} [ti : TyI P t s b z agg] {x y : Operand} {g : Nat} {T : TypeId} {cs us : List Value} {u : Value}
  (hx : ev ρ x = .pointer (some ⟨g,0,none⟩)) (hy : ev ρ y = u) (hc : u.cells = us.toArray) (hl : us.length = s) (hb : Blk w g T cs) (hi : cs.length = s) (h1 : ∀ v ∈ us,v.oneCell' = true)
  (h : ∀ w',Wrt g w w' → Blk w' g T us → WpR P n all Q rest ρ w') : WpR P n all Q (⟨none,.store t x y,ty,pos,aft,none⟩ :: rest) ρ w:=by
 have h2:=run_storeCells_at P g 0 T us 0 cs.toArray w hb (by simp; omega) h1
 have h4 : (cs.toArray.toList.take (0 + 0) ++ us ++ cs.toArray.toList.drop (0 + 0 + us.length)).toArray = us.toArray:=by
  have : List.drop us.length cs = []:=List.drop_eq_nil_of_le (by omega)
  simp [this]
 rw [h4] at h2
 refine bw4 (w':=w.setRow g us.toArray) rfl rfl ?_ (h _ ?_ (setRow_heap w g _ us.toArray T (0,0) hb))
 ·subst hl
  simp [execOp,hx,hy,Instr.storeAt,Instr.sureAddr,storeVar,ti.runSize w,hc,h2]
 exact ⟨rfl,rfl,rfl,by simp [World.setRow],fun k _ hk=>setRow_other w g k _ hk⟩
theorem j1 {f : FuncId} [ci : CallI P f] {l : List Operand} {ts : Array TypeId} {args : List Value} {Ψ : Value → World → Prop} (hc : Gives P f args w Ψ) (ha : l.map (ev ρ) = args)
  (h : ∀ v w',Ψ v w' → WpR P n all Q rest (upd ρ d v) w') : WpR P n all Q (⟨some d,.call ⟨.value (.func f),l.toArray,ts⟩,ty,pos,aft,none⟩ :: rest) ρ w:=by
 refine bm7 rfl ?_
 have hr : (execOp (ev ρ) ⟨some d,.call ⟨.value (.func f),l.toArray,ts⟩,ty,pos,aft,none⟩).run P w = .ok (.enter f args.toArray) w:=by
  subst ha
  simp [execOp,resolve,Deferred.ofValue,ev,invoke,ci.run]
 unfold Stp
 rw [hr]
 exact hc.mono h
theorem dq0 {f : FuncId} [ci : CallI P f] {x : Operand} {first cap : List Value} {l : List Operand} {ts : Array TypeId} {args : List Value} {Ψ : Value → World → Prop}
  (hx : ev ρ x = .func (.func f) first.toArray cap.toArray) (hc : Gives P f args w Ψ) (ha : first ++ l.map (ev ρ) ++ cap = args)
  (h : ∀ v w',Ψ v w' → WpR P n all Q rest (upd ρ d v) w') : WpR P n all Q (⟨some d,.call ⟨.value x,l.toArray,ts⟩,ty,pos,aft,none⟩ :: rest) ρ w:=by
 refine bm7 rfl ?_
 have hr : (execOp (ev ρ) ⟨some d,.call ⟨.value x,l.toArray,ts⟩,ty,pos,aft,none⟩).run P w = .ok (.enter f args.toArray) w:=by
  subst ha
  simp [execOp,resolve,Deferred.ofValue,hx,invoke,ci.run]
 unfold Stp
 rw [hr]
 exact hc.mono h
theorem D6 {x : Operand} {i : Nat} {l : List Value} {v : Value} (hx : ev ρ x = .tuple l.toArray) (hi : l[i]? = some v) (h : WpR P n all Q rest (upd ρ d v) w) :
  WpR P n all Q (⟨some d,.extract x i,ty,pos,aft,none⟩ :: rest) ρ w:=
 F6 rfl rfl (by simp [execOp,hx,Instr.extract,hi]) h
theorem aw4 {t : TypeId} {x : Operand} {b : Bool} (hx : ev ρ x = .bool b) (h : WpR P n all Q rest (upd ρ d (.bool (!b))) w) :
  WpR P n all Q (⟨some d,.unOp .not t x,ty,pos,aft,none⟩ :: rest) ρ w:=
 F6 rfl rfl (by simp [execOp,hx,Op.unary]) h
theorem ar5 {fn : Fn} {first cap : List Operand} (h : WpR P n all Q rest (upd ρ d (.func fn (first.map (ev ρ)).toArray (cap.map (ev ρ)).toArray)) w) :
  WpR P n all Q (⟨some d,.makeFunc fn first.toArray cap.toArray,ty,pos,aft,none⟩ :: rest) ρ w:=
 F6 rfl rfl (by simp [execOp,Instr.makeFunc]) h
theorem c57 {t T : TypeId} [st : SlT P t T] {s b : Nat} {z : Value} {agg : Bool} [ti : TyI P T s b z agg] {x hi mx : Operand} {S : Nat → Prop} {w0 : World} {v : Value} {m : Nat} {cs : List Value} {k : Nat} {i : Int}
  (hv : ev ρ x = v) (hr : Row S T s w0 v m cs) (hh : ev ρ hi = .int .i64 i) (hm : ev ρ mx = .int .i64 i) (hik : i = (k : Int)) (hk : k ≤ m)
  (h : ∀ v',Row S T s w0 v' k (cs.take (k * s)) → WpR P n all Q rest (upd ρ d v') w) : WpR P n all Q (⟨some d,.slice t x none (some hi) (some mx),ty,pos,aft,none⟩ :: rest) ρ w:=by
 obtain ⟨a,cap,hs,hc,hr'⟩:=hr.cut3 k hk
 have h2 : k ≤ cap:=by omega
 refine F6 (v:=.slice a k k) rfl rfl ?_ (h _ hr')
 subst hs hik
 simp [execOp,hv,hh,hm,Instr.sliceAt,Instr.slice,run_underlying st.und,Instr.sliceBounds,Instr.sliceBound,asIntOf,h2,ti.runSize w,Addr.add]
end rules
theorem cl9 {a b c d : Value} (h : a = b) (k : c = d) : [a,c] = [b,d]:=by rw [h,k]
theorem ao0 {P : Program} (q : Question) (w : World) : ∃ r w',(choose q).run P w = .ok r w' ∧ Ext w w':=by
 by_cases h : q.forced = true
 ·exact ⟨0,w,by simp [choose,Sem.run,h],.refl⟩
 exact ⟨_,w.drew,by simp [choose,Sem.run,h]; rfl,a57 w⟩
theorem bl2 {P : Program} {op : BinOp} (ho : op = .add ∨ op = .sub ∨ op = .mul ∨ op = .quo) (k : FloatKind) (x y : Nat) (w : World) :
  ∃ r w',(Op.floatArith op k x y).run P w = .ok (.float k r) w' ∧ Ext w w':=by
 obtain ⟨r,w',h1,h2⟩:=ao0 (P:=P) (.nanBits k x y) w
 have h3 : (do pure (Value.float k (← choose (.nanBits k x y))) : Sem Value).run P w = .ok (.float k r) w':=by
  rw [Sem.run_bind,h1]; rfl
 rcases ho with rfl | rfl | rfl | rfl <;> unfold Op.floatArith <;> dsimp only
 ·cases k.format.add x y with
  | some r=>exact ⟨r,w,rfl,.refl⟩
  | none=>exact ⟨r,w',h3,h2⟩
 ·cases k.format.sub x y with
  | some r=>exact ⟨r,w,rfl,.refl⟩
  | none=>exact ⟨r,w',h3,h2⟩
 ·cases k.format.mul x y with
  | some r=>exact ⟨r,w,rfl,.refl⟩
  | none=>exact ⟨r,w',h3,h2⟩
 cases k.format.div x y with
 | some r=>exact ⟨r,w,rfl,.refl⟩
 | none=>exact ⟨r,w',h3,h2⟩
theorem dd6 {P : Program} (k : FloatKind) (x y : Nat) (w : World) : ∃ r w',(Builtin.max2 (.float k x) (.float k y)).run P w = .ok (.float k r) w' ∧ Ext w w':=by
 obtain ⟨r,w',h1,h2⟩:=ao0 (P:=P) (.nanMinMax k true x y) w
 have h3 : (do pure (Value.float k (← choose (.nanMinMax k true x y))) : Sem Value).run P w = .ok (.float k r) w':=by
  rw [Sem.run_bind,h1]; rfl
 unfold Builtin.max2
 cases ho : k.format.order x y with
 | none=>exact ⟨r,w',by simpa [ho] using h3,h2⟩
 | some c=>cases c <;> exact ⟨_,w,by simp [ho]; rfl,.refl⟩
theorem df1 {P : Program} (k : FloatKind) (x y : Nat) (w : World) : ∃ r w',(Builtin.min2 (.float k x) (.float k y)).run P w = .ok (.float k r) w' ∧ Ext w w':=by
 obtain ⟨r,w',h1,h2⟩:=ao0 (P:=P) (.nanMinMax k false x y) w
 have h3 : (do pure (Value.float k (← choose (.nanMinMax k false x y))) : Sem Value).run P w = .ok (.float k r) w':=by
  rw [Sem.run_bind,h1]; rfl
 unfold Builtin.min2
 cases ho : k.format.order x y with
 | none=>exact ⟨r,w',by simpa [ho] using h3,h2⟩
 | some c=>cases c <;> exact ⟨_,w,by simp [ho]; rfl,.refl⟩
theorem bg4 (x : Int) : 0 ≤ IntKind.u32.wrap x ∧ IntKind.u32.wrap x ≤ 4294967295:=by simp [IntKind.wrap,IntKind.signed,IntKind.bits]; omega
theorem bj4 {P : Program} (k : FloatKind) (x : Nat) (w : World) : ∃ (n : Nat) (w' : World),(Conv.floatToInt k x .u32).run P w = .ok (.int .u32 n) w' ∧ n ≤ 4294967295 ∧ Ext w w':=by
 obtain ⟨r,w',h1,h2⟩:=ao0 (P:=P) (.floatToInt k x .u32) w
 have hw:=bg4 r
 have h3 : (do pure (Value.int .u32 (IntKind.u32.wrap (← choose (.floatToInt k x .u32)))) : Sem Value).run P w = .ok (.int .u32 ((IntKind.u32.wrap r).toNat : Nat)) w':=by
  rw [Sem.run_bind,h1,Int.toNat_of_nonneg hw.1]; rfl
 unfold Conv.floatToInt
 cases ho : (k.decode x).toInt .zero with
 | none=>exact ⟨(IntKind.u32.wrap r).toNat,w',h3,by omega,h2⟩
 | some n=>
  dsimp only
  by_cases hn : IntKind.u32.min ≤ n ∧ n ≤ IntKind.u32.max
  ·have h4 : 0 ≤ n ∧ n ≤ 4294967295:=by simpa [IntKind.min,IntKind.max,IntKind.signed,IntKind.bits] using hn
   rw [if_pos hn,← Int.toNat_of_nonneg h4.1]; exact ⟨n.toNat,w,rfl,by omega,.refl⟩
  rw [if_neg hn]; exact ⟨_,w',h3,by omega,h2⟩
class FloT (P : Program) (t : TypeId) (k : outParam FloatKind) : Prop where
 und : P.underlying t = some (.float k)
theorem I8 {P : Program} {n i : Nat} {c : Code} {K : Fr → World → Prop} {Q : G3} {ρ : Fr} {w : World} (h : Wp P n c (L9 K (K5 i (L9 K Q))) ρ w) : Wp P n c (K5 i (L9 K Q)) ρ w:=
 wp_mono h fun e ρ w h=>by cases e <;> exact h
theorem F7 {P : Program} {n i j : Nat} {c : Code} {K : Fr → World → Prop} {Q : G3} {ρ : Fr} {w : World} (h : Wp P n c (L9 K (K5 i (K5 j (L9 K Q)))) ρ w) : Wp P n c (K5 i (K5 j (L9 K Q))) ρ w:=
 wp_mono h fun e ρ w h=>by cases e <;> exact h
section rules
variable {P : Program} {n : Nat} {Q : G3} {ρ : Fr} {w : World} {all rest : List Oper} {d : Tmp} {ty : TypeId} {pos : String} {aft : Array Edge}
theorem bs2 {op : BinOp} {x y : Operand} {xt yt : TypeId} {k : FloatKind} {a b : Nat} (hx : ev ρ x = .float k a) (hy : ev ρ y = .float k b) (ho : op = .add ∨ op = .sub ∨ op = .mul ∨ op = .quo)
  (h : ∀ r w',Ext w w' → WpR P n all Q rest (upd ρ d (.float k r)) w') : WpR P n all Q (⟨some d,.binOp op xt x y yt,ty,pos,aft,none⟩ :: rest) ρ w:=by
 obtain ⟨r,w',h1,h2⟩:=bl2 (P:=P) ho k a b w
 refine ak1 rfl rfl ?_ (h r w' h2)
 rcases ho with rfl | rfl | rfl | rfl <;> simp [execOp,hx,hy,eqGuard,binOp,h1]
theorem du1 {x y : Operand} {ts : Array TypeId} {k : FloatKind} {a b : Nat} (hx : ev ρ x = .float k a) (hy : ev ρ y = .float k b)
  (h : ∀ r w',Ext w w' → WpR P n all Q rest (upd ρ d (.float k r)) w') : WpR P n all Q (⟨some d,.call ⟨.builtin .max,#[x,y],ts⟩,ty,pos,aft,none⟩ :: rest) ρ w:=by
 obtain ⟨r,w',h1,h2⟩:=dd6 (P:=P) k a b w
 refine ak1 rfl rfl ?_ (h r w' h2)
 simp [execOp,resolve,invoke,builtin,hx,hy,Builtin.max_,h1]
theorem d32 {x y : Operand} {ts : Array TypeId} {k : FloatKind} {a b : Nat} (hx : ev ρ x = .float k a) (hy : ev ρ y = .float k b)
  (h : ∀ r w',Ext w w' → WpR P n all Q rest (upd ρ d (.float k r)) w') : WpR P n all Q (⟨some d,.call ⟨.builtin .min,#[x,y],ts⟩,ty,pos,aft,none⟩ :: rest) ρ w:=by
 obtain ⟨r,w',h1,h2⟩:=df1 (P:=P) k a b w
 refine ak1 rfl rfl ?_ (h r w' h2)
 simp [execOp,resolve,invoke,builtin,hx,hy,Builtin.min_,h1]
theorem cr0 {src dst : TypeId} {x : Operand} {k0 k : IntKind} {kf : FloatKind} [ss : IntT P src k0] [sd : FloT P dst kf] {a : Int} (hx : ev ρ x = .int k a)
  (h : ∀ r,WpR P n all Q rest (upd ρ d (.float kf r)) w) : WpR P n all Q (⟨some d,.convert src dst x,ty,pos,aft,none⟩ :: rest) ρ w:=by
 refine F6 (v:=.float kf (kf.nearest a)) rfl rfl ?_ (h _)
 simp [execOp,hx,convert,run_underlying ss.und,run_underlying sd.und,Conv.intToFloat]
theorem dk2 {src dst : TypeId} {x : Operand} {kf k : FloatKind} [ss : FloT P src kf] [sd : IntT P dst .u32] {a : Nat} (hx : ev ρ x = .float k a)
  (h : ∀ (m : Nat) w',m ≤ 4294967295 → Ext w w' → WpR P n all Q rest (upd ρ d (.int .u32 m)) w') : WpR P n all Q (⟨some d,.convert src dst x,ty,pos,aft,none⟩ :: rest) ρ w:=by
 obtain ⟨m,w',h1,h2,h3⟩:=bj4 (P:=P) k a w
 refine ak1 rfl rfl ?_ (h m w' h2 h3)
 simp [execOp,hx,convert,run_underlying ss.und,run_underlying sd.und,h1]
end rules
def GivesE (P : Program) (f : FuncId) (args : List Value) (w : World) (Ψ : Value → World → Prop) (Φ : List PanicEntry → World → Prop) : Prop:=
 Calls P f args.toArray w fun e w'=>match e with | .returned v=>Ψ v w' | .panicked ch=>Φ ch w' | .outgrown=>False
theorem GivesE.mono {P : Program} {f : FuncId} {args : List Value} {w : World} {Ψ Ψ' : Value → World → Prop} {Φ Φ' : List PanicEntry → World → Prop} (h : GivesE P f args w Ψ Φ)
  (k : ∀ v w',Ψ v w' → Ψ' v w') (l : ∀ c w',Φ c w' → Φ' c w') : GivesE P f args w Ψ' Φ':=
 Calls.mono h fun e w' he=>match e,he with
  | .returned _,h=>k _ _ h
  | .panicked _,h=>l _ _ h
  | .outgrown,h=>h
theorem Gives.e {P : Program} {f : FuncId} {args : List Value} {w : World} {Ψ : Value → World → Prop} {Φ : List PanicEntry → World → Prop} (h : Gives P f args w Ψ) : GivesE P f args w Ψ Φ:=
 Calls.mono h fun e w' ⟨v,he,hv⟩=>by subst he; exact hv
def cy9 (P : Program) (fn : Func) (Ψ : Value → World → Prop) (Φ : List PanicEntry → World → Prop) : G3:=fun e ρ w=>match e with
 | .normal | .ret=>∃ vs,R1 P ρ w fn.results.toList vs ∧ Ψ (bd3 vs) w
 | .panic ch=>Φ ch w
 | _=>False
theorem cq3 {P : Program} {fn : Func} {Ψ : Value → World → Prop} {Φ : List PanicEntry → World → Prop} {ρ : Fr} {w : World} (h : ax4 P fn Ψ .ret ρ w) : cy9 P fn Ψ Φ .ret ρ w:=h
theorem az4 {P : Program} {fn : Func} {Ψ : Value → World → Prop} {Φ : List PanicEntry → World → Prop} {ρ : Fr} {w : World} {ch : List PanicEntry} (h : Φ ch w) : cy9 P fn Ψ Φ (.panic ch) ρ w:=h
theorem N5 {K : Fr → World → Prop} {Q : G3} {ρ : Fr} {w : World} {ch : List PanicEntry} (h : Q (.panic ch) ρ w) : L9 K Q (.panic ch) ρ w:=h
theorem a22 (fn : Func) {args : List Value} (hn0 : Nat.ble args.length fn.ntmps = true) :
  Mt fn.ntmps [] { tmps:=args.toArray ++ Array.replicate (fn.ntmps - args.toArray.size) undef,defers:=[] } (fun i=>args.getD i undef):=by
 have hn : args.length ≤ fn.ntmps:=Nat.le_of_ble_eq_true hn0
 refine ⟨by simp; omega,rfl,fun i=>?_⟩
 simp only [Array.getD_eq_getD_getElem?,List.getD_eq_getElem?_getD]
 rw [Array.getElem?_append]
 split
 ·simp
 rename_i hlt
 simp at hlt
 rw [List.getElem?_eq_none hlt]
 simp only [Array.getElem?_replicate]
 split <;> rfl
theorem bp9 {P : Program} {f : FuncId} {fn : Func} {c : Code} {args : List Value} {w : World} {Ψ : Value → World → Prop} {Φ : List PanicEntry → World → Prop}
  (hf : P.funcs[f]? = some fn) (hb : fn.body = some c) (hok : N8 fn.ntmps c = true) (hn0 : Nat.ble args.length fn.ntmps = true)
  (h : Wp P fn.ntmps c (cy9 P fn Ψ Φ) (fun i=>args.getD i undef) w) : GivesE P f args w Ψ Φ:=by
 refine calls_of_wp hf hb ?_
 unfold Wp at h
 refine Go.wp_mono (h hok _ _ (a22 fn hn0)) ?_
 rintro e a w' ⟨ρ,hm',hq⟩
 cases e with
 | normal=>obtain ⟨vs,hr,hv⟩:=hq; exact ⟨hm'.defers,_,I4 hm' hr,hv⟩
 | ret=>obtain ⟨vs,hr,hv⟩:=hq; exact ⟨hm'.defers,_,I4 hm' hr,hv⟩
 | panic ch=>exact ⟨hm'.defers,hq⟩
 | _=>exact hq.elim
section rules
variable {P : Program} {n : Nat} {Q : G3} {ρ : Fr} {w : World} {all rest : List Oper} {d : Tmp} {ty : TypeId} {pos : String} {aft : Array Edge}
theorem dk8 {x : Operand} {t : TypeId} {v : Value} (hx : ev ρ x = .iface t v) (h : Q (.panic [{ v:=.iface t v,recovered:=false }]) ρ w) :
  WpR P n all Q (⟨none,.panic x,ty,pos,aft,none⟩ :: rest) ρ w:=by
 unfold WpR
 intro hd D a hm
 refine wpList_plain rfl fun K hK=>?_
 unfold Oper.wp
 rw [hm.eval]
 have hr : (execOp (ev ρ) ⟨none,.panic x,ty,pos,aft,none⟩).run P w = .halt (.panic (.iface t v)) w:=by
  simp [execOp,hx,run_panic_iface]
 rw [hr]
 exact ⟨ρ,hm,h⟩
theorem b42 {o : Oper} {f : FuncId} {args : List Value} {Ψ : Value → World → Prop} {Φ : List PanicEntry → World → Prop} (hg : o.guard = none) (hdst : o.dst = some d) (hr : (execOp (ev ρ) o).run P w = .ok (.enter f args.toArray) w)
  (hc : GivesE P f args w Ψ Φ) (h : ∀ v w',Ψ v w' → WpR P n all Q rest (upd ρ d v) w') (hp : ∀ ch w',Φ ch w' → Q (.panic ch) ρ w') : WpR P n all Q (o :: rest) ρ w:=by
 unfold WpR at *
 intro hd D a hm
 simp only [List.all_cons,Bool.and_eq_true] at hd
 refine wpList_plain hg fun K hK=>?_
 unfold Oper.wp
 rw [hm.eval,hr]
 show Calls _ _ _ _ _
 refine Calls.mono hc fun e w' he=>?_
 cases e with
 | returned v=>
  have h3:=hm.putO hd.1 v
  rw [hdst] at h3 ⊢
  exact hK _ _ (h v w' he hd.2 _ _ h3)
 | panicked ch=>exact ⟨ρ,hm,hp ch w' he⟩
 | outgrown=>exact he.elim
theorem cp6 {f : FuncId} [ci : CallI P f] {l : List Operand} {ts : Array TypeId} {args : List Value} {Ψ : Value → World → Prop} {Φ : List PanicEntry → World → Prop} (hc : GivesE P f args w Ψ Φ) (ha : l.map (ev ρ) = args)
  (h : ∀ v w',Ψ v w' → WpR P n all Q rest (upd ρ d v) w') (hp : ∀ ch w',Φ ch w' → Q (.panic ch) ρ w') : WpR P n all Q (⟨some d,.call ⟨.value (.func f),l.toArray,ts⟩,ty,pos,aft,none⟩ :: rest) ρ w:=by
 refine b42 rfl rfl ?_ hc h hp
 subst ha
 simp [execOp,resolve,Deferred.ofValue,ev,invoke,ci.run]
theorem at3 {f : FuncId} [ci : CallI P f] {x : Operand} {first cap : List Value} {l : List Operand} {ts : Array TypeId} {args : List Value} {Ψ : Value → World → Prop} {Φ : List PanicEntry → World → Prop}
  (hx : ev ρ x = .func (.func f) first.toArray cap.toArray) (hc : GivesE P f args w Ψ Φ) (ha : first ++ l.map (ev ρ) ++ cap = args)
  (h : ∀ v w',Ψ v w' → WpR P n all Q rest (upd ρ d v) w') (hp : ∀ ch w',Φ ch w' → Q (.panic ch) ρ w') : WpR P n all Q (⟨some d,.call ⟨.value x,l.toArray,ts⟩,ty,pos,aft,none⟩ :: rest) ρ w:=by
 refine b42 rfl rfl ?_ hc h hp
 subst ha
 simp [execOp,resolve,Deferred.ofValue,hx,invoke,ci.run]
theorem ao1 {t : TypeId} [bt : BoolT P t] (a b : Bool) : (Op.equal t (.bool a) (.bool b)).run P w = .ok (a == b) w:=by
 unfold Op.equal Op.maxDepth Op.equalIn
 simp [run_underlying bt.und]
theorem c59 {x y : Operand} {xt yt : TypeId} [bt : BoolT P xt] {p q : Prop} (hx : ev ρ x = .bool (tst p)) (hy : ev ρ y = .bool (tst q)) (h : WpR P n all Q rest (upd ρ d (.bool (tst (p ↔ q)))) w) :
  WpR P n all Q (⟨some d,.binOp .eql xt x y yt,ty,pos,aft,none⟩ :: rest) ρ w:=by
 have e : (tst p == tst q) = tst (p ↔ q):=by
  by_cases hp : p <;> by_cases hq : q
  ·rw [l9 hp,l9 hq,l9 ⟨fun _=>hq,fun _=>hp⟩]; rfl
  ·rw [l9 hp,j8 hq,j8 fun h=>hq (h.1 hp)]; rfl
  ·rw [j8 hp,l9 hq,j8 fun h=>hp (h.2 hq)]; rfl
  rw [j8 hp,j8 hq,l9 ⟨fun h=>(hp h).elim,fun h=>(hq h).elim⟩]; rfl
 refine F6 rfl rfl ?_ h
 rw [← e]
 simp [execOp,hx,hy,eqGuard,binOp,ao1]
theorem ce0 {x y : Operand} {xt yt : TypeId} [bt : BoolT P xt] {p q : Prop} (hx : ev ρ x = .bool (tst p)) (hy : ev ρ y = .bool (tst q)) (h : WpR P n all Q rest (upd ρ d (.bool (tst (¬ (p ↔ q))))) w) :
  WpR P n all Q (⟨some d,.binOp .neq xt x y yt,ty,pos,aft,none⟩ :: rest) ρ w:=by
 have e : (tst p != tst q) = tst (¬ (p ↔ q)):=by
  by_cases hp : p <;> by_cases hq : q
  ·rw [l9 hp,l9 hq,j8 fun h=>h ⟨fun _=>hq,fun _=>hp⟩]; rfl
  ·rw [l9 hp,j8 hq,l9 fun h=>hq (h.1 hp)]; rfl
  ·rw [j8 hp,l9 hq,l9 fun h=>hp (h.2 hq)]; rfl
  rw [j8 hp,j8 hq,j8 fun h=>h ⟨fun h=>(hp h).elim,fun h=>(hq h).elim⟩]; rfl
 refine F6 rfl rfl ?_ h
 rw [← e]
 simp [execOp,hx,hy,eqGuard,binOp,ao1,bne]
theorem ba2 {t : TypeId} {x : Operand} {p : Prop} (hx : ev ρ x = .bool (tst p)) (h : WpR P n all Q rest (upd ρ d (.bool (tst (¬ p)))) w) :
  WpR P n all Q (⟨some d,.unOp .not t x,ty,pos,aft,none⟩ :: rest) ρ w:=aw4 hx (by rw [be4]; exact h)
theorem dy7 {t : TypeId} {x : Operand} {a c : Int} (hx : ev ρ x = .int .u64 a) (hc : IntKind.u64.wrap (-a) = c) (h : WpR P n all Q rest (upd ρ d (.int .u64 c)) w) :
  WpR P n all Q (⟨some d,.unOp .neg t x,ty,pos,aft,none⟩ :: rest) ρ w:=
 F6 rfl rfl (by subst hc; simp [execOp,hx,Op.unary,Op.intArith]) h
class StcT (P : Program) (T : TypeId) (pl : outParam (List (Nat × Nat))) : Prop where
 ex : ∃ fs,P.underlying T = some (.struct fs) ∧ ∀ w,(fs.mapM fun f=>Prod.mk f.offset <$> sizeOf f.type : Sem _).run P w = .ok pl.toArray w
class IfcT (P : Program) (t : TypeId) : Prop where
 und : ∃ ms,P.underlying t = some (.interface ms)
theorem a15 {T : TypeId} {s b : Nat} {z : Value} {agg : Bool} [ti : TyI P T s b z agg] {pl : List (Nat × Nat)} [st : StcT P T pl] {parts : List (Nat × Operand)} {vs : List (Nat × Value)} {zs cs : List Value}
  (hz : z.cells = zs.toArray) (hv : (parts.map fun p=>(p.1,ev ρ p.2)) = vs) (hf : Instr.fill (fun i : Nat=>(pl[i]? : Option (Nat × Nat))) zs.toArray vs = some cs.toArray)
  (h : WpR P n all Q rest (upd ρ d (.agg cs.toArray)) w) : WpR P n all Q (⟨some d,.build T parts.toArray,ty,pos,aft,none⟩ :: rest) ρ w:=by
 obtain ⟨fs,h1,h2⟩:=st.ex
 refine F6 rfl rfl ?_ h
 subst hv
 have h3 : (fun i : Nat=>((pl.toArray)[i]? : Option (Nat × Nat))) = fun i : Nat=>(pl[i]? : Option (Nat × Nat)):=by funext i; simp
 simp [execOp,Instr.build,ti.runZero w,run_underlying h1,h2,hz,h3,hf]
theorem aq2 {pl : Nat → Option (Nat × Nat)} {zs : List Value} : Instr.fill pl zs.toArray [] = some zs.toArray:=rfl
theorem bh9 {pl : Nat → Option (Nat × Nat)} {zs : List Value} {i off : Nat} {v : Value} {r : List (Nat × Value)} {o : Option (Array Value)} (hp : pl i = some (off,1)) (h1 : v.oneCell' = true) (ho : off < zs.length)
  (h : Instr.fill pl (zs.set off v).toArray r = o) : Instr.fill pl zs.toArray ((i,v) :: r) = o:=by
 have hc : v.cells = #[v]:=al0 h1
 unfold Instr.fill
 simp only [hp,hc]
 have e : (#[v].size ≠ 1 || decide (off + #[v].size > zs.toArray.size)) = false:=by simp; omega
 rw [if_neg (by rw [e]; simp)]
 subst h
 simp
theorem a05 {pl : Nat → Option (Nat × Nat)} {zs : List Value} {i off : Nat} {a b : Value} {r : List (Nat × Value)} {o : Option (Array Value)} (hp : pl i = some (off,2)) (ho : off + 1 < zs.length)
  (h : Instr.fill pl ((zs.set off a).set (off + 1) b).toArray r = o) : Instr.fill pl zs.toArray ((i,.agg #[a,b]) :: r) = o:=by
 have hc : (Value.agg #[a,b]).cells = #[a,b]:=rfl
 unfold Instr.fill
 simp only [hp,hc]
 have e : (#[a,b].size ≠ 2 || decide (off + #[a,b].size > zs.toArray.size)) = false:=by simp; omega
 rw [if_neg (by rw [e]; simp)]
 subst h
 simp [Array.zipIdx]
end rules
section ends
variable {P : Program} {fn : Func} {Ψ : Value → World → Prop} {ρ : Fr} {w : World}
theorem df3 {t : TypeId} {s b : Nat} {z : Value} [ti : TyI P t s b z true] {a : Tmp} {g : Nat} {T : TypeId} {cs : List Value} (h : ρ a = .pointer (some ⟨g,0,none⟩)) (hb : Blk w g T cs) (hs : cs.length = s) :
  a36 P ρ w (.cell a t) (.agg cs.toArray):=
 ⟨⟨g,0,none⟩,h,aq9 ti hs fun i hi=>by rw [Nat.zero_add,List.getElem?_eq_getElem hi]; exact hb.cell (List.getElem?_eq_getElem hi)⟩
theorem o7 {t : TypeId} {s b : Nat} {z : Value} [ti : TyI P t s b z true] {a : Tmp} {g : Nat} {T : TypeId} {cs : List Value} (hb : Blk w g T cs) (hs : cs.length = s) (h : ρ a = .pointer (some ⟨g,0,none⟩):=by conv=>(lhs; whnf)) : a36 P ρ w (.cell a t) (.agg cs.toArray):=
 df3 h hb hs
theorem P7 {t : TypeId} {s b : Nat} {z : Value} [ti : TyI P t s b z false] {a : Tmp} {g : Nat} {T : TypeId} {v : Value} (h : ρ a = .pointer (some ⟨g,0,none⟩)) (hb : Blk w g T [v]) :
  a36 P ρ w (.cell a t) v:=⟨⟨g,0,none⟩,h,ac4 ti (hb.cell rfl)⟩
theorem D8 {t : Tmp} {v : Value} (h : ρ t = v) : a36 P ρ w (.tmp t) v:=h.symm
theorem Y0 {r : ResultVar} {v : Value} (hl : fn.results.toList = [r]) (h : a36 P ρ w r v) (hv : Ψ v w) : ax4 P fn Ψ .ret ρ w:=
 ⟨[v],by rw [hl]; exact ⟨v,[],h,rfl,rfl⟩,hv⟩
theorem bk7 {r r2 : ResultVar} {v v2 : Value} (hl : fn.results.toList = [r,r2]) (h : a36 P ρ w r v) (h2 : a36 P ρ w r2 v2) (hv : Ψ (.tuple #[v,v2]) w) : ax4 P fn Ψ .ret ρ w:=
 ⟨[v,v2],by rw [hl]; exact ⟨v,[v2],h,⟨v2,[],h2,rfl,rfl⟩,rfl⟩,hv⟩
theorem c73 {r r2 r3 : ResultVar} {v v2 v3 : Value} (hl : fn.results.toList = [r,r2,r3]) (h : a36 P ρ w r v) (h2 : a36 P ρ w r2 v2) (h3 : a36 P ρ w r3 v3) (hv : Ψ (.tuple #[v,v2,v3]) w) : ax4 P fn Ψ .ret ρ w:=
 ⟨[v,v2,v3],by rw [hl]; exact ⟨v,[v2,v3],h,⟨v2,[v3],h2,⟨v3,[],h3,rfl,rfl⟩,rfl⟩,rfl⟩,hv⟩
end ends
end Go.Proofs.YtmkhgjccoolfjaaGreatDoor
end
section
namespace Go.Proofs.YtmkhgjccoolfjaaGreatDoor
open Go Tryz
instance y8 : TyI prog 2 1 8 (.int .i64 0) false:=⟨by kernel_rfl,by rfl,by kernel_rfl⟩
instance y9 : IntT prog 2 .i64:=⟨underlying2⟩
instance y10 : TyI prog 3 1 8 (.int .i64 0) false:=⟨by kernel_rfl,by rfl,by kernel_rfl⟩
instance y11 : IntT prog 3 .i64:=⟨underlying3⟩
instance y12 : TyI prog 4 1 1 (.bool false) false:=⟨by kernel_rfl,by rfl,by kernel_rfl⟩
instance y13 : BoolT prog 4:=⟨underlying4⟩
instance y14 : TyI prog 5 1 1 (.int .u8 0) false:=⟨by kernel_rfl,by rfl,by kernel_rfl⟩
instance y15 : IntT prog 5 .u8:=⟨underlying5⟩
instance y30 : TyI prog 9 1 16 (.string { data:=#[] }) false:=⟨by kernel_rfl,by rfl,by kernel_rfl⟩
instance y31 : StrT prog 9:=⟨underlying9⟩
instance y56 : IfcT prog 20:=⟨⟨_,underlying20⟩⟩
instance y60 : TyI prog 23 6 48 (.agg #[.int .i64 0,.int .i64 0,.int .i64 0,.int .i64 0,.int .i64 0,.int .i64 0]) true:=⟨by kernel_rfl,by rfl,by kernel_rfl⟩
instance y61 : TyI prog 24 9 72 (.agg #[.int .i64 0,.int .i64 0,.int .i64 0,.int .i64 0,.int .i64 0,.int .i64 0,.int .i64 0,.int .i64 0,.int .i64 0]) true:=⟨by kernel_rfl,by rfl,by kernel_rfl⟩
instance y64 : TyI prog 26 1 24 (.slice none 0 0) false:=⟨by kernel_rfl,by rfl,by kernel_rfl⟩
instance y65 : SlT prog 26 3:=⟨underlying26⟩
instance y70 : TyI prog 28 2 32 (.agg #[.bool false,.slice none 0 0]) true:=⟨by kernel_rfl,by rfl,by kernel_rfl⟩
instance y71 : StcT prog 28 [(0,1),(1,1)]:=⟨⟨_,underlying28,fun w=>by kernel_rfl⟩⟩
instance y72 : FldT prog 28 0 0:=⟨⟨_,_,Tryz.t4,underlying28,rfl,rfl,by kernel_rfl,by decide⟩⟩
instance y73 : FldT prog 28 1 1:=⟨⟨_,_,Tryz.t26,underlying28,rfl,rfl,by kernel_rfl,by decide⟩⟩
instance y78 : TyI prog 30 4 64 (.agg #[.bool false,.slice none 0 0,.bool false,.slice none 0 0]) true:=⟨by kernel_rfl,by rfl,by kernel_rfl⟩
instance y79 : StcT prog 30 [(0,2),(2,2)]:=⟨⟨_,underlying30,fun w=>by kernel_rfl⟩⟩
instance y80 : FldT prog 30 0 0:=⟨⟨_,_,Tryz.t28,underlying30,rfl,rfl,by kernel_rfl,by decide⟩⟩
instance y81 : FldT prog 30 1 2:=⟨⟨_,_,Tryz.t28,underlying30,rfl,rfl,by kernel_rfl,by decide⟩⟩
instance y82 : TyI prog 31 12 192 (.agg #[.bool false,.slice none 0 0,.bool false,.slice none 0 0,.bool false,.slice none 0 0,.bool false,.slice none 0 0,.bool false,.slice none 0 0,.bool false,.slice none 0 0]) true:=⟨by kernel_rfl,by rfl,by kernel_rfl⟩
instance y90 : TyI prog 39 12 192 (.agg #[.bool false,.slice none 0 0,.bool false,.slice none 0 0,.bool false,.slice none 0 0,.bool false,.slice none 0 0,.bool false,.slice none 0 0,.bool false,.slice none 0 0]) true:=⟨by kernel_rfl,by rfl,by kernel_rfl⟩
instance y97 : TyI prog 46 1 8 (.int .u64 0) false:=⟨by kernel_rfl,by rfl,by kernel_rfl⟩
instance y102 : TyI prog 49 1 24 (.slice none 0 0) false:=⟨by kernel_rfl,by rfl,by kernel_rfl⟩
instance y103 : SlT prog 49 227:=⟨underlying49⟩
instance y108 : TyI prog 51 2 32 (.agg #[.bool false,.slice none 0 0]) true:=⟨by kernel_rfl,by rfl,by kernel_rfl⟩
instance y109 : StcT prog 51 [(0,1),(1,1)]:=⟨⟨_,underlying51,fun w=>by kernel_rfl⟩⟩
instance y110 : FldT prog 51 0 0:=⟨⟨_,_,Tryz.t4,underlying51,rfl,rfl,by kernel_rfl,by decide⟩⟩
instance y111 : FldT prog 51 1 1:=⟨⟨_,_,Tryz.t49,underlying51,rfl,rfl,by kernel_rfl,by decide⟩⟩
instance y116 : TyI prog 53 3 56 (.agg #[.bool false,.slice none 0 0,.slice none 0 0]) true:=⟨by kernel_rfl,by rfl,by kernel_rfl⟩
instance y117 : StcT prog 53 [(0,2),(2,1)]:=⟨⟨_,underlying53,fun w=>by kernel_rfl⟩⟩
instance y118 : FldT prog 53 0 0:=⟨⟨_,_,Tryz.t51,underlying53,rfl,rfl,by kernel_rfl,by decide⟩⟩
instance y119 : FldT prog 53 1 2:=⟨⟨_,_,Tryz.t49,underlying53,rfl,rfl,by kernel_rfl,by decide⟩⟩
instance y120 : TyI prog 54 9 168 (.agg #[.bool false,.slice none 0 0,.slice none 0 0,.bool false,.slice none 0 0,.slice none 0 0,.bool false,.slice none 0 0,.slice none 0 0]) true:=⟨by kernel_rfl,by rfl,by kernel_rfl⟩
instance y121 : TyI prog 55 9 168 (.agg #[.bool false,.slice none 0 0,.slice none 0 0,.bool false,.slice none 0 0,.slice none 0 0,.bool false,.slice none 0 0,.slice none 0 0]) true:=⟨by kernel_rfl,by rfl,by kernel_rfl⟩
instance y122 : TyI prog 56 1 8 (.int .i64 0) false:=⟨by kernel_rfl,by rfl,by kernel_rfl⟩
instance y126 : TyI prog 60 18 336 (.agg #[.bool false,.slice none 0 0,.slice none 0 0,.bool false,.slice none 0 0,.slice none 0 0,.bool false,.slice none 0 0,.slice none 0 0,.bool false,.slice none 0 0,.slice none 0 0,.bool false,.slice none 0 0,.slice none 0 0,.bool false,.slice none 0 0,.slice none 0 0]) true:=⟨by kernel_rfl,by rfl,by kernel_rfl⟩
instance y140 : TyI prog 76 6 48 (.agg #[.int .i64 0,.int .i64 0,.int .i64 0,.int .i64 0,.int .i64 0,.int .i64 0]) true:=⟨by kernel_rfl,by rfl,by kernel_rfl⟩
instance y141 : TyI prog 77 12 96 (.agg #[.int .i64 0,.int .i64 0,.int .i64 0,.int .i64 0,.int .i64 0,.int .i64 0,.int .i64 0,.int .i64 0,.int .i64 0,.int .i64 0,.int .i64 0,.int .i64 0]) true:=⟨by kernel_rfl,by rfl,by kernel_rfl⟩
instance y188 : TyI prog 128 1 24 (.slice none 0 0) false:=⟨by kernel_rfl,by rfl,by kernel_rfl⟩
instance y196 : TyI prog 135 1 24 (.slice none 0 0) false:=⟨by kernel_rfl,by rfl,by kernel_rfl⟩
instance y226 : TyI prog 162 1 8 (.agg #[.int .i64 0]) true:=⟨by kernel_rfl,by rfl,by kernel_rfl⟩
instance y227 : StcT prog 162 [(0,1)]:=⟨⟨_,underlying162,fun w=>by kernel_rfl⟩⟩
instance y228 : FldT prog 162 0 0:=⟨⟨_,_,Tryz.t56,underlying162,rfl,rfl,by kernel_rfl,by decide⟩⟩
instance y230 : TyI prog 165 1 24 (.slice none 0 0) false:=⟨by kernel_rfl,by rfl,by kernel_rfl⟩
instance y247 : TyI prog 178 4 64 (.agg #[.bool false,.slice none 0 0,.slice none 0 0,.bool false]) true:=⟨by kernel_rfl,by rfl,by kernel_rfl⟩
instance y249 : FldT prog 178 0 0:=⟨⟨_,_,Tryz.t53,underlying178,rfl,rfl,by kernel_rfl,by decide⟩⟩
instance y250 : FldT prog 178 1 3:=⟨⟨_,_,Tryz.t4,underlying178,rfl,rfl,by kernel_rfl,by decide⟩⟩
instance y258 : TyI prog 188 2 16 (.agg #[.int .i64 0,.int .i64 0]) true:=⟨by kernel_rfl,by rfl,by kernel_rfl⟩
instance y264 : TyI prog 194 1 24 (.slice none 0 0) false:=⟨by kernel_rfl,by rfl,by kernel_rfl⟩
instance y269 : IntT prog 197 .u64:=⟨underlying197⟩
instance y277 : TyI prog 204 0 0 (.agg #[]) true:=⟨by kernel_rfl,by rfl,by kernel_rfl⟩
instance y278 : StcT prog 204 []:=⟨⟨_,underlying204,fun w=>by kernel_rfl⟩⟩
instance y289 : TyI prog 218 1 8 (.pointer none) false:=⟨by kernel_rfl,by rfl,by kernel_rfl⟩
instance y290 : TyI prog 219 1 24 (.slice none 0 0) false:=⟨by kernel_rfl,by rfl,by kernel_rfl⟩
instance y291 : SlT prog 219 5:=⟨underlying219⟩
instance y296 : TyI prog 221 2 32 (.agg #[.pointer none,.slice none 0 0]) true:=⟨by kernel_rfl,by rfl,by kernel_rfl⟩
instance y298 : FldT prog 221 0 0:=⟨⟨_,_,Tryz.t218,underlying221,rfl,rfl,by kernel_rfl,by decide⟩⟩
instance y299 : FldT prog 221 1 1:=⟨⟨_,_,Tryz.t219,underlying221,rfl,rfl,by kernel_rfl,by decide⟩⟩
instance y306 : TyI prog 227 1 4 (.int .u32 0) false:=⟨by kernel_rfl,by rfl,by kernel_rfl⟩
instance y307 : IntT prog 227 .u32:=⟨underlying227⟩
instance y325 : FloT prog 248 Go.FloatKind.f64:=⟨underlying248⟩
instance y458 : CallI prog 12:=⟨fun a w=>Tryz.call12 a w⟩
instance y459 : CallI prog 13:=⟨fun a w=>Tryz.call13 a w⟩
instance y462 : CallI prog 16:=⟨fun a w=>Tryz.call16 a w⟩
instance y463 : CallI prog 17:=⟨fun a w=>Tryz.call17 a w⟩
instance y464 : CallI prog 18:=⟨fun a w=>Tryz.call18 a w⟩
instance y471 : CallI prog 25:=⟨fun a w=>Tryz.call25 a w⟩
instance y474 : CallI prog 28:=⟨fun a w=>Tryz.call28 a w⟩
instance y475 : CallI prog 29:=⟨fun a w=>Tryz.call29 a w⟩
instance y476 : CallI prog 30:=⟨fun a w=>Tryz.call30 a w⟩
instance y477 : CallI prog 31:=⟨fun a w=>Tryz.call31 a w⟩
instance y478 : CallI prog 32:=⟨fun a w=>Tryz.call32 a w⟩
instance y479 : CallI prog 33:=⟨fun a w=>Tryz.call33 a w⟩
instance y480 : CallI prog 34:=⟨fun a w=>Tryz.call34 a w⟩
instance y481 : CallI prog 35:=⟨fun a w=>Tryz.call35 a w⟩
instance y482 : CallI prog 36:=⟨fun a w=>Tryz.call36 a w⟩
instance y483 : CallI prog 37:=⟨fun a w=>Tryz.call37 a w⟩
instance y491 : CallI prog 45:=⟨fun a w=>Tryz.call45 a w⟩
instance y499 : CallI prog 53:=⟨fun a w=>Tryz.call53 a w⟩
instance y500 : CallI prog 54:=⟨fun a w=>Tryz.call54 a w⟩
instance y501 : CallI prog 55:=⟨fun a w=>Tryz.call55 a w⟩
instance y502 : CallI prog 56:=⟨fun a w=>Tryz.call56 a w⟩
instance y503 : CallI prog 57:=⟨fun a w=>Tryz.call57 a w⟩
instance y504 : CallI prog 58:=⟨fun a w=>Tryz.call58 a w⟩
instance y505 : CallI prog 59:=⟨fun a w=>Tryz.call59 a w⟩
instance y506 : CallI prog 60:=⟨fun a w=>Tryz.call60 a w⟩
instance y507 : CallI prog 61:=⟨fun a w=>Tryz.call61 a w⟩
instance y508 : CallI prog 62:=⟨fun a w=>Tryz.call62 a w⟩
instance y509 : CallI prog 63:=⟨fun a w=>Tryz.call63 a w⟩
instance y510 : CallI prog 64:=⟨fun a w=>Tryz.call64 a w⟩
instance y511 : CallI prog 65:=⟨fun a w=>Tryz.call65 a w⟩
instance y512 : CallI prog 66:=⟨fun a w=>Tryz.call66 a w⟩
instance y513 : CallI prog 67:=⟨fun a w=>Tryz.call67 a w⟩
instance y514 : CallI prog 68:=⟨fun a w=>Tryz.call68 a w⟩
instance y515 : CallI prog 69:=⟨fun a w=>Tryz.call69 a w⟩
instance y516 : CallI prog 70:=⟨fun a w=>Tryz.call70 a w⟩
instance y517 : CallI prog 71:=⟨fun a w=>Tryz.call71 a w⟩
instance y518 : CallI prog 72:=⟨fun a w=>Tryz.call72 a w⟩
instance y519 : CallI prog 73:=⟨fun a w=>Tryz.call73 a w⟩
instance y520 : CallI prog 74:=⟨fun a w=>Tryz.call74 a w⟩
instance y521 : CallI prog 75:=⟨fun a w=>Tryz.call75 a w⟩
instance y525 : CallI prog 79:=⟨fun a w=>Tryz.call79 a w⟩
instance y527 : CallI prog 81:=⟨fun a w=>Tryz.call81 a w⟩
instance y528 : CallI prog 82:=⟨fun a w=>Tryz.call82 a w⟩
instance y529 : CallI prog 83:=⟨fun a w=>Tryz.call83 a w⟩
instance y531 : CallI prog 85:=⟨fun a w=>Tryz.call85 a w⟩
instance y532 : CallI prog 86:=⟨fun a w=>Tryz.call86 a w⟩
instance y534 : CallI prog 88:=⟨fun a w=>Tryz.call88 a w⟩
instance y535 : CallI prog 89:=⟨fun a w=>Tryz.call89 a w⟩
instance y536 : CallI prog 90:=⟨fun a w=>Tryz.call90 a w⟩
instance y537 : CallI prog 91:=⟨fun a w=>Tryz.call91 a w⟩
instance y538 : CallI prog 92:=⟨fun a w=>Tryz.call92 a w⟩
instance y539 : CallI prog 93:=⟨fun a w=>Tryz.call93 a w⟩
instance y540 : CallI prog 94:=⟨fun a w=>Tryz.call94 a w⟩
instance y541 : CallI prog 95:=⟨fun a w=>Tryz.call95 a w⟩
instance y542 : CallI prog 96:=⟨fun a w=>Tryz.call96 a w⟩
instance y543 : CallI prog 97:=⟨fun a w=>Tryz.call97 a w⟩
instance y544 : CallI prog 98:=⟨fun a w=>Tryz.call98 a w⟩
instance y545 : CallI prog 99:=⟨fun a w=>Tryz.call99 a w⟩
instance y546 : CallI prog 100:=⟨fun a w=>Tryz.call100 a w⟩
instance y547 : CallI prog 101:=⟨fun a w=>Tryz.call101 a w⟩
instance y548 : CallI prog 102:=⟨fun a w=>Tryz.call102 a w⟩
instance y556 : CallI prog 110:=⟨fun a w=>Tryz.call110 a w⟩
instance y557 : CallI prog 111:=⟨fun a w=>Tryz.call111 a w⟩
instance y558 : CallI prog 112:=⟨fun a w=>Tryz.call112 a w⟩
instance y559 : CallI prog 113:=⟨fun a w=>Tryz.call113 a w⟩
instance y561 : CallI prog 115:=⟨fun a w=>Tryz.call115 a w⟩
instance y562 : CallI prog 116:=⟨fun a w=>Tryz.call116 a w⟩
instance y563 : CallI prog 117:=⟨fun a w=>Tryz.call117 a w⟩
instance y564 : CallI prog 118:=⟨fun a w=>Tryz.call118 a w⟩
instance y565 : CallI prog 119:=⟨fun a w=>Tryz.call119 a w⟩
instance y566 : CallI prog 120:=⟨fun a w=>Tryz.call120 a w⟩
instance y567 : CallI prog 121:=⟨fun a w=>Tryz.call121 a w⟩
instance y568 : CallI prog 122:=⟨fun a w=>Tryz.call122 a w⟩
instance y569 : CallI prog 123:=⟨fun a w=>Tryz.call123 a w⟩
instance y570 : CallI prog 124:=⟨fun a w=>Tryz.call124 a w⟩
instance y571 : CallI prog 125:=⟨fun a w=>Tryz.call125 a w⟩
instance y572 : CallI prog 126:=⟨fun a w=>Tryz.call126 a w⟩
instance y573 : CallI prog 127:=⟨fun a w=>Tryz.call127 a w⟩
instance y574 : CallI prog 128:=⟨fun a w=>Tryz.call128 a w⟩
instance y575 : CallI prog 129:=⟨fun a w=>Tryz.call129 a w⟩
instance y576 : CallI prog 130:=⟨fun a w=>Tryz.call130 a w⟩
instance y577 : CallI prog 131:=⟨fun a w=>Tryz.call131 a w⟩
instance y579 : CallI prog 133:=⟨fun a w=>Tryz.call133 a w⟩
instance y580 : CallI prog 134:=⟨fun a w=>Tryz.call134 a w⟩
instance y581 : CallI prog 135:=⟨fun a w=>Tryz.call135 a w⟩
instance y582 : CallI prog 136:=⟨fun a w=>Tryz.call136 a w⟩
instance y583 : CallI prog 137:=⟨fun a w=>Tryz.call137 a w⟩
instance y584 : CallI prog 138:=⟨fun a w=>Tryz.call138 a w⟩
instance y585 : CallI prog 139:=⟨fun a w=>Tryz.call139 a w⟩
instance y586 : CallI prog 140:=⟨fun a w=>Tryz.call140 a w⟩
instance y587 : CallI prog 141:=⟨fun a w=>Tryz.call141 a w⟩
instance y588 : CallI prog 142:=⟨fun a w=>Tryz.call142 a w⟩
instance y589 : CallI prog 143:=⟨fun a w=>Tryz.call143 a w⟩
instance y590 : CallI prog 144:=⟨fun a w=>Tryz.call144 a w⟩
instance y591 : CallI prog 145:=⟨fun a w=>Tryz.call145 a w⟩
instance y592 : CallI prog 146:=⟨fun a w=>Tryz.call146 a w⟩
instance y593 : CallI prog 147:=⟨fun a w=>Tryz.call147 a w⟩
instance y594 : CallI prog 148:=⟨fun a w=>Tryz.call148 a w⟩
instance y595 : CallI prog 149:=⟨fun a w=>Tryz.call149 a w⟩
instance y597 : CallI prog 151:=⟨fun a w=>Tryz.call151 a w⟩
instance y598 : CallI prog 152:=⟨fun a w=>Tryz.call152 a w⟩
instance y599 : CallI prog 153:=⟨fun a w=>Tryz.call153 a w⟩
instance y600 : CallI prog 154:=⟨fun a w=>Tryz.call154 a w⟩
instance y601 : CallI prog 155:=⟨fun a w=>Tryz.call155 a w⟩
instance y603 : CallI prog 157:=⟨fun a w=>Tryz.call157 a w⟩
instance y604 : CallI prog 158:=⟨fun a w=>Tryz.call158 a w⟩
instance y605 : CallI prog 159:=⟨fun a w=>Tryz.call159 a w⟩
instance y606 : CallI prog 160:=⟨fun a w=>Tryz.call160 a w⟩
instance y607 : CallI prog 161:=⟨fun a w=>Tryz.call161 a w⟩
instance y608 : CallI prog 162:=⟨fun a w=>Tryz.call162 a w⟩
instance y609 : CallI prog 163:=⟨fun a w=>Tryz.call163 a w⟩
instance y610 : CallI prog 164:=⟨fun a w=>Tryz.call164 a w⟩
instance y611 : CallI prog 165:=⟨fun a w=>Tryz.call165 a w⟩
instance y612 : CallI prog 166:=⟨fun a w=>Tryz.call166 a w⟩
instance y613 : CallI prog 167:=⟨fun a w=>Tryz.call167 a w⟩
instance y614 : CallI prog 168:=⟨fun a w=>Tryz.call168 a w⟩
instance y615 : CallI prog 169:=⟨fun a w=>Tryz.call169 a w⟩
instance y616 : CallI prog 170:=⟨fun a w=>Tryz.call170 a w⟩
instance y617 : CallI prog 171:=⟨fun a w=>Tryz.call171 a w⟩
instance y618 : CallI prog 172:=⟨fun a w=>Tryz.call172 a w⟩
instance y619 : CallI prog 173:=⟨fun a w=>Tryz.call173 a w⟩
instance y620 : CallI prog 174:=⟨fun a w=>Tryz.call174 a w⟩
instance y621 : CallI prog 175:=⟨fun a w=>Tryz.call175 a w⟩
instance y622 : CallI prog 176:=⟨fun a w=>Tryz.call176 a w⟩
instance y623 : CallI prog 177:=⟨fun a w=>Tryz.call177 a w⟩
instance y624 : CallI prog 178:=⟨fun a w=>Tryz.call178 a w⟩
instance y625 : CallI prog 179:=⟨fun a w=>Tryz.call179 a w⟩
instance y626 : CallI prog 180:=⟨fun a w=>Tryz.call180 a w⟩
instance y627 : CallI prog 181:=⟨fun a w=>Tryz.call181 a w⟩
instance y628 : CallI prog 182:=⟨fun a w=>Tryz.call182 a w⟩
instance y629 : CallI prog 183:=⟨fun a w=>Tryz.call183 a w⟩
instance y630 : CallI prog 184:=⟨fun a w=>Tryz.call184 a w⟩
instance y631 : CallI prog 185:=⟨fun a w=>Tryz.call185 a w⟩
instance y632 : CallI prog 186:=⟨fun a w=>Tryz.call186 a w⟩
instance y633 : CallI prog 187:=⟨fun a w=>Tryz.call187 a w⟩
instance y634 : CallI prog 188:=⟨fun a w=>Tryz.call188 a w⟩
instance y635 : CallI prog 189:=⟨fun a w=>Tryz.call189 a w⟩
instance y636 : CallI prog 190:=⟨fun a w=>Tryz.call190 a w⟩
instance y637 : CallI prog 191:=⟨fun a w=>Tryz.call191 a w⟩
instance y638 : CallI prog 192:=⟨fun a w=>Tryz.call192 a w⟩
instance y639 : CallI prog 193:=⟨fun a w=>Tryz.call193 a w⟩
instance y640 : CallI prog 194:=⟨fun a w=>Tryz.call194 a w⟩
instance y641 : CallI prog 195:=⟨fun a w=>Tryz.call195 a w⟩
instance y642 : CallI prog 196:=⟨fun a w=>Tryz.call196 a w⟩
instance y643 : CallI prog 197:=⟨fun a w=>Tryz.call197 a w⟩
instance y644 : CallI prog 198:=⟨fun a w=>Tryz.call198 a w⟩
instance y646 : CallI prog 200:=⟨fun a w=>Tryz.call200 a w⟩
instance y647 : CallI prog 201:=⟨fun a w=>Tryz.call201 a w⟩
instance y648 : CallI prog 202:=⟨fun a w=>Tryz.call202 a w⟩
instance y654 : CallI prog 208:=⟨fun a w=>Tryz.call208 a w⟩
instance y655 : CallI prog 209:=⟨fun a w=>Tryz.call209 a w⟩
instance y656 : CallI prog 210:=⟨fun a w=>Tryz.call210 a w⟩
instance y657 : CallI prog 211:=⟨fun a w=>Tryz.call211 a w⟩
instance y658 : CallI prog 212:=⟨fun a w=>Tryz.call212 a w⟩
instance y659 : CallI prog 213:=⟨fun a w=>Tryz.call213 a w⟩
instance y660 : CallI prog 214:=⟨fun a w=>Tryz.call214 a w⟩
instance y661 : CallI prog 215:=⟨fun a w=>Tryz.call215 a w⟩
instance y662 : CallI prog 216:=⟨fun a w=>Tryz.call216 a w⟩
instance y677 : CallI prog 232:=⟨fun a w=>Tryz.call232 a w⟩
instance y678 : CallI prog 233:=⟨fun a w=>Tryz.call233 a w⟩
instance y679 : CallI prog 234:=⟨fun a w=>Tryz.call234 a w⟩
instance y680 : CallI prog 235:=⟨fun a w=>Tryz.call235 a w⟩
instance y681 : CallI prog 236:=⟨fun a w=>Tryz.call236 a w⟩
instance y682 : CallI prog 237:=⟨fun a w=>Tryz.call237 a w⟩
end Go.Proofs.YtmkhgjccoolfjaaGreatDoor
end
section
namespace Go.Proofs.YtmkhgjccoolfjaaGreatDoor
open Go Go.RowKit Tryz
abbrev Own (base : Nat) (T : TypeId) (s : Nat) (w : World) (v : Value) (m : Nat) (xs : List Value) : Prop:=w.ownsRow base T s v m xs
theorem ac7 {S : Nat → Prop} {base : Nat} {T : TypeId} {s : Nat} {w w' : World} {v : Value} {m : Nat} {xs : List Value} (h : Own base T s w v m xs) (k : Keeps S w w') (hS : ∀ g,v.ownBlock = some g → S g) : Own base T s w' v m xs:=by
 refine ⟨h.1,?_⟩
 rcases h.2 with hn | ⟨g,cap,cur,rfl,hb,hg,rest⟩
 ·exact .inl hn
 exact .inr ⟨g,cap,cur,rfl,hb,(k.block g (Array.getElem?_eq_some_iff.1 hg).1 (hS g rfl)).trans hg,rest⟩
theorem ab2 {base : Nat} {T : TypeId} {s : Nat} {w w' : World} {v : Value} {m : Nat} {xs : List Value} (h : Own base T s w v m xs) (k : Ext w w') : Own base T s w' v m xs:=ac7 h k fun _ _=>trivial
theorem ai2 {base : Nat} {T : TypeId} {s : Nat} {w : World} : Own base T s w (.slice none 0 0) 0 []:=World.ownsRow_nil w base T s
theorem c95 {base : Nat} {T : TypeId} {s cap : Nat} {w : World} {b : Nat} {cs : List Value} (h : Blk w b T cs) (hb : base ≤ b) (hm : cap ≤ maxLen) (hs : cs.length = cap * s) : Own base T s w (.slice (some ⟨b,0,none⟩) 0 cap) 0 []:=
 ⟨by simp,.inr ⟨b,cap,cs.toArray,rfl,hb,h,Nat.zero_le _,hm,by simpa using hs,by simp⟩⟩
theorem at9 {base : Nat} {T : TypeId} {s m : Nat} {w : World} {b : Nat} {cs : List Value} (h : Blk w b T cs) (hb : base ≤ b) (hm : m ≤ maxLen) (hs : cs.length = m * s) : Own base T s w (.slice (some ⟨b,0,none⟩) m m) m cs:=
 ⟨hs,.inr ⟨b,m,cs.toArray,rfl,hb,h,Nat.le_refl _,hm,by simpa using hs,by simp [← hs]⟩⟩
theorem Keeps.own {base : Nat} {T : TypeId} {s : Nat} {w w' : World} {v : Value} {m : Nat} {xs : List Value} (h : Own base T s w v m xs) (k : Keeps (fun k=>some k ≠ v.ownBlock) w w') : Keeps (fun k=>k < base) w w':=
 k.mono fun i hi e=>by have:=(h.lt i e.symm).1; omega
section rules
variable {P : Program} {n : Nat} {Q : G3} {ρ : Fr} {w : World} {all rest : List Oper} {d : Tmp} {ty : TypeId} {pos : String} {aft : Array Edge}
theorem dg6 {x y : Operand} {ts : Array TypeId} {k : IntKind} {a b : Int} (hx : ev ρ x = .int k a) (hy : ev ρ y = .int k b) (h : WpR P n all Q rest (upd ρ d (.int k (max a b))) w) :
  WpR P n all Q (⟨some d,.call ⟨.builtin .max,#[x,y],ts⟩,ty,pos,aft,none⟩ :: rest) ρ w:=by
 refine F6 rfl rfl ?_ h
 have e : (if b > a then b else a) = max a b:=by split <;> omega
 simp [execOp,resolve,invoke,builtin,hx,hy,run_max_int2,e]
theorem d84 {x y : Operand} {ts : Array TypeId} {k : IntKind} {a b : Int} (hx : ev ρ x = .int k a) (hy : ev ρ y = .int k b) (h : WpR P n all Q rest (upd ρ d (.int k (min a b))) w) :
  WpR P n all Q (⟨some d,.call ⟨.builtin .min,#[x,y],ts⟩,ty,pos,aft,none⟩ :: rest) ρ w:=by
 refine F6 rfl rfl ?_ h
 simp [execOp,resolve,invoke,builtin,hx,hy,run_min_int2]
 omega
theorem ab1 {t T : TypeId} [st : SlT P t T] {b : Nat} {z : Value} {agg : Bool} [ti : TyI P T 1 b z agg] {x : Operand} {v : Value} (hx : ev ρ x = v) (h1 : v.oneCell' = true)
  (h : ∀ w' g,Ext w w' → Blk w' g T [v] → w.heap.size ≤ g → WpR P n all Q rest (upd ρ d (.slice (some ⟨g,0,none⟩) 1 1)) w') :
  WpR P n all Q (⟨some d,.buildSlice t 1 #[(0,x)],ty,pos,aft,none⟩ :: rest) ρ w:=by
 have hc : v.cells = #[v]:=by cases v <;> first | rfl | cases h1
 refine ak1 (w':=w.alloc (.cells [v].toArray T)) rfl rfl ?_ (h _ w.heap.size (Q3 _ _) (Blk.new _ _ _) (Nat.le_refl _))
 have hz:=ti.zsize
 simp [execOp,hx,Instr.buildSlice,run_underlying st.und,ti.runSize w,ti.runZero w,Instr.fill,hc,newRow]
 have e : ∀ f : Nat → Value,(Array.map f (Array.range 1)).setIfInBounds 0 v = #[v]:=fun f=>by
  refine Array.ext (by simp) fun i h2 h3=>?_
  obtain rfl : i = 0:=by simp at h3; omega
  simp
 rw [e]
theorem bf6 {t T : TypeId} [st : SlT P t T] {s b : Nat} {z : Value} {agg : Bool} [ti : TyI P T s b z agg] {x y : Operand} {I J : Int} {l c : Nat} (hx : ev ρ x = .int .i64 I) (hy : ev ρ y = .int .i64 J) (hI : I = (l : Int)) (hJ : J = (c : Int))
  (hlc : l ≤ c) (hb : b * c ≤ 281474976710656) (hc : c ≤ maxLen)
  (h : ∀ w' g,Ext w w' → Blk w' g T (madeCells z.cells (c * s)).toList → w.heap.size ≤ g → WpR P n all Q rest (upd ρ d (.slice (some ⟨g,0,none⟩) l c)) w') :
  WpR P n all Q (⟨some d,.makeSlice t x y,ty,pos,aft,none⟩ :: rest) ρ w:=by
 obtain ⟨i,hi,h1,h2,h3⟩:=ti.ex
 subst hI hJ
 have hm:=hc
 unfold maxLen at hm
 have hb4 : (b : Int) * (c : Int) ≤ 281474976710656:=by
  have h4 : ((b * c : Nat) : Int) ≤ 281474976710656:=by omega
  rwa [Int.natCast_mul] at h4
 have hr:=run_make (P:=P) w t T i z st.und hi h3 .i64 .i64 (l : Int) (c : Int) (by omega) (by omega) (by rw [h2]; exact hb4) (by omega)
 rw [h1] at hr
 have hn:=h (w.alloc (.cells (madeCells z.cells (c * s)) T)) w.heap.size (Q3 _ _) (by have:=Blk.new w T (madeCells z.cells (c * s)).toList; simpa using this) (Nat.le_refl _)
 refine ak1 rfl rfl ?_ hn
 simp only [Int.toNat_natCast] at hr
 simp [execOp,hx,hy,hr]
theorem b33 {t T : TypeId} [st : SlT P t T] {s b : Nat} {z : Value} {agg : Bool} [ti : TyI P T s b z agg] {x y : Operand} {v : Value} {base m k c : Nat} {xs news : List Value} {ad : Addr}
  (hx : ev ρ x = v) (hown : Own base T s w v m xs) (hy : ev ρ y = .slice (some ad) k c) (hs : 0 < s) (hnl : news.length = k * s) (hnews : ∀ j u,news[j]? = some u → w.cell? (ad.add j) = some u) (h1 : ∀ u ∈ news,u.oneCell' = true)
  (hlen : m + k ≤ maxLen) (hbytes : (m + k) * b ≤ 140737488355328) (hbase : base ≤ w.heap.size)
  (h : ∀ v' w',Own base T s w' v' (m + k) (xs ++ news) → Keeps (fun i=>some i ≠ v.ownBlock) w w' → WpR P n all Q rest (upd ρ d v') w') :
  WpR P n all Q (⟨some d,.call ⟨.builtin .append,#[x,y],#[t,t]⟩,ty,pos,aft,none⟩ :: rest) ρ w:=by
 obtain ⟨i,hi,e1,e2,e3⟩:=ti.ex
 obtain ⟨v',w',hr,h2,h3,h4⟩:=run_append_own (P:=P) w base t ty T i z s b st.und hi e3 e1 e2 ti.zsize hs v m xs hown ad k c news hnl hnews h1 hlen hbytes hbase
 refine ak1 rfl rfl ?_ (h v' w' h2 (.of_grown h3))
 simp [execOp,resolve,invoke,builtin,hx,hy,hr]
theorem bs7 {t T : TypeId} [st : SlT P t T] {s b : Nat} {z : Value} {agg : Bool} [ti : TyI P T s b z agg] {x y : Operand} {v : Value} {base m : Nat} {xs : List Value}
  (hx : ev ρ x = v) (hown : Own base T s w v m xs) (hy : ev ρ y = .slice none 0 0) (h : WpR P n all Q rest (upd ρ d v) w) :
  WpR P n all Q (⟨some d,.call ⟨.builtin .append,#[x,y],#[t,t]⟩,ty,pos,aft,none⟩ :: rest) ρ w:=by
 obtain ⟨i,hi,e1,e2,e3⟩:=ti.ex
 have hr:=run_append_owned_none (P:=P) (w:=w) base t ty T i s st.und hi v m xs hown
 refine F6 rfl rfl ?_ h
 simp [execOp,resolve,invoke,builtin,hx,hy,hr]
theorem S7 {t T : TypeId} [st : SlT P t T] {s b : Nat} {z : Value} {agg : Bool} [ti : TyI P T s b z agg] {x y : Operand} {v : Value} {base m g : Nat} {xs cs : List Value}
  (hx : ev ρ x = v) (hown : Own base T s w v m xs) (hy : ev ρ y = .slice (some ⟨g,0,none⟩) 1 1) (hb : Blk w g T cs) (hs : 0 < s) (hcl : cs.length = s) (h1 : ∀ u ∈ cs,u.oneCell' = true)
  (hlen : m + 1 ≤ maxLen) (hbytes : (m + 1) * b ≤ 140737488355328) (hbase : base ≤ w.heap.size)
  (h : ∀ v' w',Own base T s w' v' (m + 1) (xs ++ cs) → Keeps (fun i=>some i ≠ v.ownBlock) w w' → WpR P n all Q rest (upd ρ d v') w') :
  WpR P n all Q (⟨some d,.call ⟨.builtin .append,#[x,y],#[t,t]⟩,ty,pos,aft,none⟩ :: rest) ρ w:=by
 refine b33 hx hown hy hs (by omega) (fun j u hu=>?_) h1 hlen hbytes hbase h
 have ha : (⟨g,0,none⟩ : Addr).add j = ⟨g,j,none⟩:=by
  unfold Addr.add
  split <;> simp_all
 rw [ha]
 exact hb.cell hu
theorem a42 {t T : TypeId} [st : SlT P t T] {s b : Nat} {z : Value} {agg : Bool} [ti : TyI P T s b z agg] {x y : Operand} {S : Nat → Prop} {v va : Value} {base m k : Nat} {xs cs : List Value}
  (hx : ev ρ x = v) (hown : Own base T s w v m xs) (hy : ev ρ y = va) (hr : Row S T s w va k cs) (hs : 0 < s) (h1 : ∀ u ∈ cs,u.oneCell' = true)
  (hlen : m + k ≤ maxLen) (hbytes : (m + k) * b ≤ 140737488355328) (hbase : base ≤ w.heap.size)
  (h : ∀ v' w',Own base T s w' v' (m + k) (xs ++ cs) → Keeps (fun i=>some i ≠ v.ownBlock) w w' → WpR P n all Q rest (upd ρ d v') w') :
  WpR P n all Q (⟨some d,.call ⟨.builtin .append,#[x,y],#[t,t]⟩,ty,pos,aft,none⟩ :: rest) ρ w:=by
 rcases hr.2 with ⟨h2,h3⟩ | ⟨g,off,cap,arr,fr,hv,h2,h3,h4,hg,h5,h6⟩
 ·have hl:=hr.1
  subst h3
  obtain rfl : cs = []:=List.eq_nil_of_length_eq_zero (by simpa using hl)
  exact bs7 hx hown (hy.trans h2) (by simpa using h v w (by simpa using hown) .refl)
 refine b33 hx hown (hy.trans hv) hs hr.1 (fun j u hu=>?_) h1 hlen hbytes hbase h
 have ha : (⟨g,off,none⟩ : Addr).add j = ⟨g,off + j,none⟩:=by
  unfold Addr.add
  split <;> simp_all
 have:=hr.cell hu
 rw [hv] at this
 rw [ha]
 exact this
end rules
structure Ent where
 X : Option Value
 p : Value → World → Prop
 keep : ∀ v w w',p v w → Ext w w' → p v w'
 hX : ∀ v w Y,p v w → X = some Y → v = Y
 hY : ∀ Y w,X = some Y → p Y w
 fr : Bool
 hfr : fr = true → ∀ v w,p v w → ∃ g,v = .pointer (some ⟨g,0,none⟩) ∧ g < w.heap.size
def Ent.eq (Y : Value) : Ent:=⟨some Y,fun v _=>v = Y,fun _ _ _ h _=>h,fun v w Z h hZ=>by simp at hZ; rw [← hZ]; exact h,fun Z w hZ=>by simp at hZ; exact hZ.symm,false,fun h=>by cases h⟩
def Ent.of (p : Value → World → Prop) (h : ∀ v w w',p v w → Ext w w' → p v w') : Ent:=⟨none,p,h,fun v w Y _ h=>by simp at h,fun Y w h=>by simp at h,false,fun h=>by cases h⟩
def Ent.new (b : Nat) (T : TypeId) (cs : List Value) : Ent:=
 ⟨none,fun v w=>∃ g,v = .pointer (some ⟨g,0,none⟩) ∧ Blk w g T cs ∧ b ≤ g,fun v w w' ⟨g,h,hb,hg⟩ k=>⟨g,h,hb.to k,hg⟩,fun v w Y _ h=>by simp at h,fun Y w h=>by simp at h,true,fun _ v w ⟨g,h,hb,_⟩=>⟨g,h,hb.lt⟩⟩
def F5 : List Edge → Nat → Bool
 | [],_=>false
 | e :: r,j=>bif Nat.beq e.on j && Region.binds .any e then true else F5 r j
abbrev Acc:=List (Nat × Option Tmp × Ent)
def frA (ρ : Fr) (x : Nat → Value) : Acc → Fr
 | []=>ρ
 | (i,d,e) :: r=>ap4 (frA ρ x r) d (e.X.getD (x i))
def bp7 (x : Nat → Value) (w : World) (es : List Edge) : Acc → Prop
 | []=>True
 | (i,_,e) :: r=>(bif F5 es i then e.p (e.X.getD (x i)) w else True) ∧ bp7 x w es r
def b50 (x : Nat → Value) (w : World) : Acc → Prop
 | []=>True
 | (i,_,e) :: r=>e.p (e.X.getD (x i)) w ∧ b50 x w r
def bt4 (x : Nat → Value) (v : Value) : Acc → Prop
 | []=>True
 | (i,_,e) :: r=>(bif e.fr then v ≠ e.X.getD (x i) else True) ∧ bt4 x v r
def bi7 (x : Nat → Value) : Acc → Prop
 | []=>True
 | (i,_,e) :: r=>(bif e.fr then bt4 x (e.X.getD (x i)) r else True) ∧ bi7 x r
def obQ (w : World) (d : Option Tmp) (e : Ent) : G3:=fun ex ρ' w'=>ex = .normal ∧ Ext w w' ∧ ∃ t,d = some t ∧ e.p (ρ' t) w' ∧ (e.fr = true → ∀ g,ρ' t = .pointer (some ⟨g,0,none⟩) → w.heap.size ≤ g)
def Obs (P : Program) (n : Nat) (all : List Oper) (ρ : Fr) (w : World) (K : Acc → Prop) : Acc → Nat → List Oper → Prop
 | acc,_,[]=>K acc
 | acc,i,o :: r=>∃ e : Ent,(∀ x w',Ext w w' → bp7 x w' o.after.toList acc → WpR P n all (obQ w' o.dst e) [o] (frA ρ x acc) w') ∧ Obs P n all ρ w K ((i,o.dst,e) :: acc) (i + 1) r
def M6 (o : Oper) : List Tmp:=o.op.operands.toList.filterMap fun | .tmp t=>some t | _=>none
def bs5 : List (Nat × Option Tmp) → Nat → List Oper → Bool
 | _,_,[]=>true
 | done,i,o :: r=>
  (match o.dst with | some d=>done.all (fun p=>p.2 != some d) | none=>false) &&
  (match o.op with | .select ..=>false | _=>true) &&
  o.after.toList.all (fun e=>!Region.binds .any e || Nat.blt e.on i) &&
  done.all (fun p=>F5 o.after.toList p.1 || match p.2 with | some d=>!(M6 o).contains d && (match o.guard with | some (g,_)=>g != p.1 | none=>true) | none=>true) &&
  (match o.guard with | some (g,_)=>Nat.blt g i | none=>true) &&
  (r.all fun o'=>match o.dst with | some d=>!(M6 o).contains d | none=>true) &&
  bs5 ((i,o.dst) :: done) (i + 1) r
def bb0 : List Oper → Bool
 | []=>true
 | o :: r=>(r.all fun o'=>match o'.dst with | some d=>!(M6 o).contains d | none=>true) && (match o.dst with | some d=>!(M6 o).contains d | none=>true) && bb0 r
def F0 (n N : Nat) : Array Bool:=((List.range N).map fun i=>decide (i < n)).toArray
def ch5 (l : List Oper) (t : Nat) : Bool:=
 bs5 [] 0 (l.take t) && bb0 (l.take t) && Nat.blt t l.length && Region.sinkB .any l.toArray t && Region.chainB .any l.toArray t && Region.seqB .any l.toArray (l.length - t) t (F0 t l.length)
section
variable {P : Program} {n : Nat} {all : List Oper} {ρ : Fr} {w : World} {K : Acc → Prop}
abbrev fb8:=Nat × Option Tmp × Ent
def Ob (P : Program) (n : Nat) (all : List Oper) (ρ : Fr) (w : World) (o : Oper) (acc : Acc) (e : Ent) : Prop:=
 ∀ x w',Ext w w' → bp7 x w' o.after.toList acc → WpR P n all (obQ w' o.dst e) [o] (frA ρ x acc) w'
theorem db2 : ∀ (r : List Oper) (acc : Acc) (i : Nat),Obs P n all ρ w K acc i r →
  ∃ L : List fb8,L.length = r.length ∧ K (L.reverse ++ acc) ∧ ∀ k (hk : k < r.length),∃ e,L[k]? = some (i + k,r[k].dst,e) ∧ Ob P n all ρ w r[k] ((L.take k).reverse ++ acc) e:=by
 intro r
 induction r with
 | nil=>intro acc i h; exact ⟨[],rfl,h,fun k hk=>absurd hk (by simp)⟩
 | cons o r ih=>
  rintro acc i ⟨e,ho,hr⟩
  obtain ⟨L,hl,hK,hL⟩:=ih _ _ hr
  refine ⟨(i,o.dst,e) :: L,by simp [hl],by simpa using hK,fun k hk=>?_⟩
  cases k with
  | zero=>exact ⟨e,rfl,ho⟩
  | succ k=>
   obtain ⟨e',h1,h2⟩:=hL k (by simpa using hk)
   refine ⟨e',?_,?_⟩
   ·simp only [List.getElem?_cons_succ,h1,List.getElem_cons_succ]
    rw [show i + 1 + k = i + (k + 1) by omega]
   simpa using h2
theorem an0 : ∀ {es : List Edge} {j : Nat},F5 es j = true → ∃ e ∈ es,Region.binds .any e = true ∧ e.on = j:=by
 intro es
 induction es with
 | nil=>intro j h; simp [F5] at h
 | cons e r ih=>
  intro j h
  simp only [F5] at h
  cases hb : (Nat.beq e.on j && Region.binds .any e) with
  | true=>
   simp only [Bool.and_eq_true] at hb
   exact ⟨e,List.mem_cons_self ..,hb.2,Nat.eq_of_beq_eq_true hb.1⟩
  | false=>
   rw [hb] at h
   obtain ⟨e',h1,h2⟩:=ih h
   exact ⟨e',List.mem_cons_of_mem _ h1,h2⟩
structure HOk (done : List (Nat × Option Tmp)) (i : Nat) (o : Oper) : Prop where
 dst : ∃ d,o.dst = some d ∧ ∀ p ∈ done,p.2 ≠ some d
 sel : ∀ cs b,o.op ≠ .select cs b
 low : ∀ e ∈ o.after,Region.binds .any e = true → e.on < i
 deps : ∀ p ∈ done,∀ d,p.2 = some d → F5 o.after.toList p.1 = true ∨ (d ∉ M6 o ∧ ∀ g b,o.guard = some (g,b) → g ≠ p.1)
 guard : ∀ g b,o.guard = some (g,b) → g < i
theorem bx9 : ∀ (r : List Oper) (done : List (Nat × Option Tmp)) (i : Nat),bs5 done i r = true → ∀ k (hk : k < r.length),
  HOk (((List.range k).map fun j=>(i + j,(r[j]?.bind (·.dst)))).reverse ++ done) (i + k) r[k]:=by
 intro r
 induction r with
 | nil=>intro done i h k hk; exact absurd hk (by simp)
 | cons o r ih=>
  intro done i h k hk
  simp only [bs5,Bool.and_eq_true] at h
  obtain ⟨⟨⟨⟨⟨⟨h1,h2⟩,h3⟩,h4⟩,h5⟩,h6⟩,h7⟩:=h
  cases k with
  | zero=>
   simp only [List.range_zero,List.map_nil,List.reverse_nil,List.nil_append,Nat.add_zero,List.getElem_cons_zero]
   refine ⟨?_,?_,?_,?_,?_⟩
   ·cases hd : o.dst with
    | none=>rw [hd] at h1; cases h1
    | some d=>
     rw [hd] at h1
     refine ⟨d,rfl,fun p hp=>?_⟩
     have:=List.all_eq_true.1 h1 p hp
     simpa using this
   ·intro cs b e
    rw [e] at h2
    cases h2
   ·intro e he hb
    have:=List.all_eq_true.1 h3 e (Array.mem_toList_iff.2 he)
    simp only [hb,Bool.not_true,Bool.false_or] at this
    exact Nat.le_of_ble_eq_true this
   ·intro p hp d hd
    have:=List.all_eq_true.1 h4 p hp
    simp only [Bool.or_eq_true,hd,Bool.and_eq_true] at this
    rcases this with h | ⟨ha,hb⟩
    ·exact .inl h
    refine .inr ⟨by simpa using ha,fun g b hg=>?_⟩
    rw [hg] at hb
    simpa using hb
   intro g b hg
   rw [hg] at h5
   exact Nat.le_of_ble_eq_true h5
  | succ k=>
   have:=ih _ _ h7 k (by simpa using hk)
   have e1 : ((List.range (k + 1)).map fun j=>(i + j,((o :: r)[j]?.bind (·.dst)))).reverse ++ done = ((List.range k).map fun j=>(i + 1 + j,(r[j]?.bind (·.dst)))).reverse ++ ((i,o.dst) :: done):=by
    rw [List.range_succ_eq_map]
    simp only [List.map_cons,List.map_map,List.reverse_cons,List.append_assoc,List.cons_append,List.nil_append,List.getElem?_cons_zero,Option.bind_some,Nat.add_zero]
    congr 2
    refine List.map_congr_left fun j _=>?_
    simp only [Function.comp,List.getElem?_cons_succ]
    rw [show i + (j + 1) = i + 1 + j by omega]
   rw [e1,show i + (k + 1) = i + 1 + k by omega]
   simpa using this
theorem as3 : ∀ (r : List Oper),bb0 r = true → ∀ k j (hk : k < r.length) (hj : j < r.length),k ≤ j → ∀ d,r[j].dst = some d → d ∉ M6 r[k]:=by
 intro r
 induction r with
 | nil=>intro _ k j hk; exact absurd hk (by simp)
 | cons o r ih=>
  intro h k j hk hj hkj d hd
  simp only [bb0,Bool.and_eq_true] at h
  cases k with
  | zero=>
   cases j with
   | zero=>
    simp only [List.getElem_cons_zero] at hd ⊢
    have:=h.1.2
    rw [hd] at this
    simpa using this
   | succ j=>
    simp only [List.getElem_cons_succ,List.getElem_cons_zero] at hd ⊢
    have:=List.all_eq_true.1 h.1.1 (r[j]'(by simpa using hj)) (List.getElem_mem _)
    rw [hd] at this
    simpa using this
  | succ k=>
   cases j with
   | zero=>omega
   | succ j=>
    simp only [List.getElem_cons_succ] at hd ⊢
    exact ih h.2 k j (by simpa using hk) (by simpa using hj) (by omega) d hd
def unl (listed : Array Bool) : Nat → Nat
 | 0=>0
 | k + 1=>unl listed k + (if listed.getD k false = true then 0 else 1)
theorem bs8 {listed : Array Bool} {i : Nat} (hi : i < listed.size) (h : listed.getD i false = false) : ∀ t,unl (listed.setIfInBounds i true) t = if i < t then unl listed t - 1 else unl listed t:=by
 intro t
 induction t with
 | zero=>rfl
 | succ t ih=>
  simp only [unl,ih]
  by_cases e : i = t
  ·subst e
   have h1 : (listed.setIfInBounds i true).getD i false = true:=by simp [hi]
   rw [h1,h]
   simp
  ·rw [getD_set_ne false e]
   have hle : ∀ u,i < u → 0 < unl listed u:=by
    intro u
    induction u with
    | zero=>intro h0; omega
    | succ u ihu=>
     intro hu
     simp only [unl]
     by_cases e2 : i = u
     ·subst e2; rw [h]; simp
     have:=ihu (by omega); omega
   by_cases hlt : i < t
   ·have:=hle t hlt
    simp only [if_pos hlt,if_pos (show i < t + 1 by omega)]
    omega
   simp only [if_neg hlt,if_neg (show ¬ i < t + 1 by omega)]
theorem a25 {listed : Array Bool} : ∀ {t : Nat},unl listed t = 0 → ∀ i,i < t → listed.getD i false = true:=by
 intro t
 induction t with
 | zero=>intro _ i hi; omega
 | succ t ih=>
  intro h i hi
  simp only [unl] at h
  by_cases e : i = t
  ·subst e
   by_cases hl : listed.getD i false = true
   ·exact hl
   rw [if_neg hl] at h; omega
  exact ih (by omega) i (by omega)
theorem a77 {listed : Array Bool} : ∀ {t : Nat},unl listed t ≠ 0 → ∃ i,i < t ∧ listed.getD i false = false ∧ ∀ j,j < i → listed.getD j false = true:=by
 intro t
 induction t with
 | zero=>intro h; exact absurd rfl h
 | succ t ih=>
  intro h
  by_cases h0 : unl listed t = 0
  ·have hz:=a25 h0
   simp only [unl,h0] at h
   by_cases hl : listed.getD t false = true
   ·rw [if_pos hl] at h; omega
   exact ⟨t,by omega,by simpa using hl,hz⟩
  obtain ⟨i,h1,h2⟩:=ih h0
  exact ⟨i,by omega,h2⟩
theorem bs9 (N t : Nat) (h : t ≤ N) : unl (Array.replicate N false) t = t:=by
 induction t with
 | zero=>rfl
 | succ t ih=>simp only [unl,ih (by omega),getD_replicate_false]; simp
theorem bw6 {x : Nat → Value} {s : Nat} : ∀ {acc : Acc},(∀ p ∈ acc,p.2.1 ≠ some s) → frA ρ x acc s = ρ s:=by
 intro acc
 induction acc with
 | nil=>intro _; rfl
 | cons a r ih=>
  intro h
  obtain ⟨i,d,e⟩:=a
  have h1:=h _ (List.mem_cons_self ..)
  have h2:=ih fun p hp=>h p (List.mem_cons_of_mem _ hp)
  cases d with
  | none=>exact h2
  | some d=>
   show upd _ d _ s = _
   rw [O8,h2]
   cases hb : Nat.beq s d with
   | false=>rfl
   | true=>exact absurd (congrArg some (Nat.eq_of_beq_eq_true hb).symm) h1
theorem db1 {x : Nat → Value} {s i : Nat} {e : Ent} : ∀ {acc : Acc},(i,some s,e) ∈ acc → (∀ p ∈ acc,p.2.1 = some s → p = (i,some s,e)) → frA ρ x acc s = e.X.getD (x i):=by
 intro acc
 induction acc with
 | nil=>intro h; cases h
 | cons a r ih=>
  intro h hu
  obtain ⟨j,d,e'⟩:=a
  by_cases hd : d = some s
  ·have:=hu _ (List.mem_cons_self ..) hd
   simp only [Prod.mk.injEq] at this
   obtain ⟨rfl,rfl,rfl⟩:=this
   exact D9 _ _ _
  have hm : (i,some s,e) ∈ r:=by
   rcases List.mem_cons.1 h with h | h
   ·simp only [Prod.mk.injEq] at h; exact absurd h.2.1.symm hd
   exact h
  have h2:=ih hm fun p hp=>hu p (List.mem_cons_of_mem _ hp)
  cases d with
  | none=>exact h2
  | some d=>
   show upd _ d _ s = _
   rw [O8,h2]
   cases hb : Nat.beq s d with
   | false=>rfl
   | true=>exact absurd (congrArg some (Nat.eq_of_beq_eq_true hb).symm) hd
theorem dg9 {x : Nat → Value} {w' : World} {es : List Edge} : ∀ {acc : Acc},(∀ p ∈ acc,F5 es p.1 = true → p.2.2.p (p.2.2.X.getD (x p.1)) w') → bp7 x w' es acc:=by
 intro acc
 induction acc with
 | nil=>intro _; trivial
 | cons a r ih=>
  intro h
  obtain ⟨i,d,e⟩:=a
  refine ⟨?_,ih fun p hp=>h p (List.mem_cons_of_mem _ hp)⟩
  cases hb : F5 es i with
  | false=>trivial
  | true=>exact h _ (List.mem_cons_self ..) hb
theorem dn6 {x : Nat → Value} {w' : World} : ∀ {acc : Acc},(∀ p ∈ acc,p.2.2.p (p.2.2.X.getD (x p.1)) w') → b50 x w' acc:=by
 intro acc
 induction acc with
 | nil=>intro _; trivial
 | cons a r ih=>
  intro h
  obtain ⟨i,d,e⟩:=a
  exact ⟨h _ (List.mem_cons_self ..),ih fun p hp=>h p (List.mem_cons_of_mem _ hp)⟩
theorem c27 {x : Nat → Value} : ∀ {acc : Acc},acc.Pairwise (fun p q=>p.2.2.fr = true → q.2.2.fr = true → p.2.2.X.getD (x p.1) ≠ q.2.2.X.getD (x q.1)) → bi7 x acc:=by
 have one : ∀ (v : Value) (r : Acc),(∀ q ∈ r,q.2.2.fr = true → v ≠ q.2.2.X.getD (x q.1)) → bt4 x v r:=by
  intro v r
  induction r with
  | nil=>intro _; trivial
  | cons a r ih=>
   obtain ⟨i,d,e⟩:=a
   intro h
   refine ⟨?_,ih fun q hq=>h q (List.mem_cons_of_mem _ hq)⟩
   cases he : e.fr with
   | false=>trivial
   | true=>exact h (i,d,e) (List.mem_cons_self ..) he
 intro acc
 induction acc with
 | nil=>intro _; trivial
 | cons a r ih=>
  obtain ⟨i,d,e⟩:=a
  intro h
  rw [List.pairwise_cons] at h
  refine ⟨?_,ih h.2⟩
  cases he : e.fr with
  | false=>trivial
  | true=>exact one _ _ fun q hq hq2=>h.1 q hq he hq2
theorem bo3 {P : Program} {o : Oper} {a a2 : Act} {r : Result Next} {K K2 : Act → World → Prop} {Q Q2 : Exit → Act → World → Prop}
  (hK : ∀ v w,K2 (a2.put o.dst v) w → K (a.put o.dst v) w) (hd : ∀ d v w,¬ K2 ({ a2 with defers:=d :: a2.defers }.put o.dst v) w) (hp : ∀ c a w,¬ Q2 (.panic c) a w) (ho : ¬ LetsOut Q2)
  (h : o.upon P a2 K2 Q2 r) : o.upon P a K Q r:=by
 cases r with
 | ok x w=>
  cases x <;> simp only [Oper.upon] at h ⊢
  case value v=>exact hK _ _ h
  case skip=>exact hK _ _ h
  case defer d=>exact (hd _ _ _ h).elim
  case enter f args=>
   refine Calls.mono h fun e w' he=>?_
   cases e with
   | returned v=>exact hK _ _ he
   | panicked c=>exact (hp _ _ _ he).elim
   | outgrown=>exact (ho he).elim
  case row r args=>exact Rows.mono h fun v w' he=>hK _ _ he
 | halt x w=>
  cases x <;> simp only [Oper.upon] at h ⊢
  case panic v=>exact (hp _ _ _ h).elim
def O7 (n : Nat) (D : List Deferred) (F : Fr) : Act:={ tmps:=Array.ofFn (n:=n) fun i=>F i.val,defers:=D }
theorem b82 {n : Nat} {D : List Deferred} {F : Fr} (h : ∀ i,n ≤ i → F i = undef) : Mt n D (O7 n D F) F:=by
 refine ⟨by simp [O7],rfl,fun i=>?_⟩
 by_cases hi : i < n
 ·simp [O7,Array.getD,hi]
 simp [O7,Array.getD,hi,h i (by omega)]
theorem dt9 {P : Program} {n : Nat} {D : List Deferred} {all : List Oper} {o : Oper} {e : Ent} {F ρ' : Fr} {a : Act} {w' : World} {K : Act → World → Prop} {Q : Exit → Act → World → Prop} {i d : Nat}
  (hi : all[i]? = some o) (hdst : o.dst = some d) (hdn : Nat.blt d n = true) (hsel : ∀ cs b,o.op ≠ .select cs b) (hF : ∀ k,n ≤ k → F k = undef) (hm : Mt n D a ρ')
  (heq : ∀ s ∈ M6 o,F s = ρ' s) (hg : ∀ g b,o.guard = some (g,b) → ∀ s,H6 all g = some s → F s = ρ' s)
  (h : WpR P n all (obQ w' o.dst e) [o] F w') (hK : ∀ v w2,Ext w' w2 → e.p v w2 → (e.fr = true → ∀ g,v = .pointer (some ⟨g,0,none⟩) → w'.heap.size ≤ g) → K (a.put o.dst v) w2) : wpOp P all.toArray Q i K a w':=by
 have hm2:=b82 (D:=D) hF
 have hok : aa4 n o = true:=by unfold aa4; rw [hdst]; exact hdn
 unfold WpR at h
 have h2:=h (by simp [hok]) _ _ hm2
 have hev : execOp a.eval o = execOp (O7 n D F).eval o:=by
  refine execOp_congr o hsel fun x hx=>?_
  cases x with
  | tmp s=>
   show a.tmps.getD s undef = (O7 n D F).tmps.getD s undef
   rw [hm.get,hm2.get]
   refine (heq s ?_).symm
   exact List.mem_filterMap.2 ⟨.tmp s,Array.mem_toList_iff.2 hx,rfl⟩
  | _=>rfl
 have hw : Region.wanted o (yielded all.toArray a.tmps) = Region.wanted o (yielded all.toArray (O7 n D F).tmps):=by
  unfold Region.wanted
  cases hgd : o.guard with
  | none=>rfl
  | some gb=>
   obtain ⟨g,b⟩:=gb
   have hy : yielded all.toArray a.tmps g = yielded all.toArray (O7 n D F).tmps g:=by
    unfold yielded
    cases hs : H6 all g with
    | none=>
     have : ((all.toArray)[g]?).bind (·.dst) = none:=by simpa [H6] using hs
     rw [this]; rfl
    | some s=>
     have : ((all.toArray)[g]?).bind (·.dst) = some s:=by simpa [H6] using hs
     rw [this]
     have h3 : a.tmps.getD s undef = (O7 n D F).tmps.getD s undef:=by rw [hm.get,hm2.get]; exact (hg g b hgd s hs).symm
     have s1:=hm.size
     have s2:=hm2.size
     by_cases hlt : s < n
     ·have l1 : s < a.tmps.size:=by omega
      have l2 : s < (O7 n D F).tmps.size:=by omega
      simp only [Array.getD,l1,l2,dite_true] at h3
      have h4 : a.tmps[s] = (O7 n D F).tmps[s]:=h3
      simp only [Option.bind_some,Array.getElem?_eq_getElem l1,Array.getElem?_eq_getElem l2,h4]
     have l1 : a.tmps.size ≤ s:=by omega
     have l2 : (O7 n D F).tmps.size ≤ s:=by omega
     simp only [Option.bind_some,Array.getElem?_eq_none l1,Array.getElem?_eq_none l2]
   simp only [hy]
 have hpost : ∀ v w2,bj6 n D (obQ w' o.dst e) .normal ((O7 n D F).put o.dst v) w2 → Ext w' w2 ∧ e.p v w2 ∧ (e.fr = true → ∀ g,v = .pointer (some ⟨g,0,none⟩) → w'.heap.size ≤ g):=by
  rintro v w2 ⟨ρ2,hm3,_,hx,s,hs,hp⟩
  rw [hdst] at hs
  obtain rfl : d = s:=by simpa using hs
  have h3:=(hm2.put hdn v).get d
  rw [D9] at h3
  have h4:=hm3.get d
  rw [hdst,h3] at h4
  rw [h4]
  exact ⟨hx,hp⟩
 have hio : (all.toArray)[i]? = some o:=by simpa using hi
 have hnl : ¬ LetsOut (bj6 n D (obQ w' o.dst e)):=by
  rintro ⟨a0,w0,ρ0,_,h0,_⟩
  cases h0
 unfold wpOp
 simp only [hio,hw]
 unfold wpList at h2
 cases hwd : Region.wanted o (yielded all.toArray (O7 n D F).tmps) with
 | true=>
  simp only [hwd,if_true] at h2 ⊢
  rcases h2 with h2 | ⟨_,h2⟩
  ·left
   unfold Oper.wp at h2 ⊢
   rw [hev]
   refine bo3 (fun v w2 hk=>?_) (fun dd v w2 hk=>?_) (fun c a0 w0 hc=>?_) hnl h2
   ·obtain ⟨h5,h6,h7⟩:=hpost v w2 hk
    exact hK v w2 h5 h6 h7
   ·obtain ⟨ρ2,hm3,_⟩:=hk
    have:=hm3.defers
    have h9 : (O7 n D F).defers = D:=rfl
    cases hdd : o.dst <;> simp [hdd,Act.put,h9] at this
   obtain ⟨ρ0,_,h0,_⟩:=hc
   cases h0
  exact (hnl h2).elim
 | false=>
  simp only [hwd,Bool.false_eq_true,if_false] at h2 ⊢
  obtain ⟨h5,h6,h7⟩:=hpost undef w' h2
  exact hK undef w' h5 h6 h7
theorem di0 {P : Program} {n : Nat} {Q : G3} {ρ : Fr} {w : World} {id : Nat} {l : List Oper} (t : Nat) (hmo : P.follows .mixedOrders = true) (hchk : ch5 l t = true)
  (h : Obs P n l ρ w (fun acc=>∀ x w',Ext w w' → b50 x w' acc → bi7 x acc → WpR P n l Q (l.drop t) (frA ρ x acc) w') [] 0 (l.take t)) : Wp P n (.region id l.toArray true) Q ρ w:=by
 simp only [ch5,Bool.and_eq_true] at hchk
 obtain ⟨⟨⟨⟨⟨c1,c2⟩,c3⟩,c4⟩,c5⟩,c6⟩:=hchk
 have htl : t < l.length:=Nat.le_of_ble_eq_true c3
 have htk : (l.take t).length = t:=by rw [List.length_take]; omega
 obtain ⟨L,hL,hK,hO⟩:=db2 _ _ _ h
 rw [htk] at hL
 simp only [List.append_nil] at hK hO
 have hget : ∀ k (hk : k < t),(l.take t)[k]'(by omega) = l[k]:=fun k hk=>by simp
 have hHd0:=bx9 _ _ _ c1
 have hHd : ∀ k (hk : k < t),HOk (((List.range k).map fun j=>(0 + j,((l.take t)[j]?.bind (·.dst)))).reverse ++ []) (0 + k) ((l.take t)[k]'(by omega)):=fun k hk=>hHd0 k (by omega)
 have hLt:=as3 _ c2
 unfold Wp
 intro hc D act hmt
 simp only [N8,List.all_eq_true] at hc
 refine wp_region_any hmo ?_
 have hw1 : Ext w { w with drawn:=w.drawn + 1 }:=a57 w
 have hsz : l.toArray.size = t + (l.length - t):=by simp; omega
 have hund : ∀ i,n ≤ i → ρ i = undef:=fun i hi=>by rw [← hmt.get i]; simp [Array.getD,hmt.size]; omega
 have hds : ∀ k (hk : k < t),∃ d e,L[k]? = some (k,some d,e) ∧ l[k].dst = some d ∧ Nat.blt d n = true ∧ Ob P n l ρ w l[k] ((L.take k).reverse) e:=by
  intro k hk
  obtain ⟨e,h1,h2⟩:=hO k (by omega)
  rw [Nat.zero_add] at h1
  obtain ⟨⟨d,hd,_⟩,_⟩:=hHd k hk
  rw [hget k hk] at h1 h2 hd
  rw [hd] at h1
  refine ⟨d,e,by simpa using h1,hd,?_,h2⟩
  have:=hc l[k] (by simp)
  simpa [aa4,hd] using this
 have hapart : ∀ j k (hj : j < t) (hk : k < t) d,j < k → l[j].dst = some d → l[k].dst ≠ some d:=by
  intro j k hj hk d hjk hd hd2
  obtain ⟨⟨d',hd',hne⟩,_⟩:=hHd k hk
  rw [hget k hk,hd2] at hd'
  obtain rfl : d = d':=by simpa using hd'
  refine hne (0 + j,((l.take t)[j]?.bind (·.dst))) ?_ ?_
  ·refine List.mem_append_left _ (List.mem_reverse.2 (List.mem_map.2 ⟨j,List.mem_range.2 hjk,rfl⟩))
  rw [List.getElem?_eq_getElem (by omega)]
  simp only [Option.bind_some,hget j hj,hd]
 have huniq : ∀ j k (hj : j < t) (hk : k < t) d,l[j].dst = some d → l[k].dst = some d → j = k:=by
  intro j k hj hk d h1 h2
  rcases Nat.lt_trichotomy j k with h | h | h
  ·exact absurd h2 (hapart j k hj hk d h h1)
  ·exact h
  exact absurd h1 (hapart k j hk hj d h h2)
 have hmem : ∀ m,m ≤ t → ∀ p ∈ (L.take m).reverse,∃ k,∃ hk : k < t,k < m ∧ p.1 = k ∧ p.2.1 = l[k].dst ∧ L[k]? = some p:=by
  intro m hm p hp
  rw [List.mem_reverse] at hp
  obtain ⟨k,hk,hpk⟩:=List.mem_iff_getElem.1 hp
  simp only [List.length_take] at hk
  have hkt : k < t:=by omega
  have h1 : L[k]? = some p:=by
   rw [List.getElem_take] at hpk
   rw [← hpk]
   exact List.getElem?_eq_getElem (by omega)
  obtain ⟨d,e,h2,h3,_⟩:=hds k hkt
  have h4:=h1.symm.trans h2
  simp only [Option.some.injEq] at h4
  exact ⟨k,hkt,by omega,by rw [h4],by rw [h4,h3],h1⟩
 have hin : ∀ m,m ≤ t → ∀ k (hk : k < t),k < m → ∀ q,L[k]? = some q → q ∈ (L.take m).reverse:=by
  intro m hm k hk hkm q hq
  rw [List.mem_reverse]
  refine List.mem_of_getElem? (i:=k) ?_
  rw [List.getElem?_take,if_pos hkm]
  exact hq
 let Inv : Array Bool → Act → World → Prop:=fun listed a w'=>∃ ρ',Mt n D a ρ' ∧ Ext w w' ∧ (∀ s,(∀ k (hk : k < t),l[k].dst ≠ some s) → ρ' s = ρ s) ∧
  (∀ k,k < t → listed.getD k false = true → ∀ d e,L[k]? = some (k,some d,e) → e.p (ρ' d) w') ∧
  (∀ j k,j < t → k < t → j ≠ k → listed.getD j false = true → listed.getD k false = true → ∀ d e d' e',L[j]? = some (j,some d,e) → L[k]? = some (k,some d',e') → e.fr = true → e'.fr = true → ρ' d ≠ ρ' d')
 have fin : ∀ listed a w',HeadInv .any l.toArray t listed → unl listed t = 0 → Inv listed a w' → wpAny P .any l.toArray (bj6 n D Q) (l.length - t) listed a w':=by
  rintro listed a w' inv h0 ⟨ρ',hm',hx,hout,hp,hdst⟩
  have hz:=a25 h0
  have hcan : listed = F0 t l.length:=by
   refine Array.ext (by rw [inv.size]; simp [F0]) fun i h1 h2=>?_
   have hsz2:=inv.size
   have hil : i < l.length:=by simpa [hsz2] using h1
   by_cases hit : i < t
   ·have h3:=hz i hit
    simp only [Array.getD,h1,dite_true] at h3
    have h4 : listed[i] = true:=h3
    simp [F0,h4,hit]
   ·have h3:=inv.tail i (by omega) (by simpa using hil)
    simp only [Array.getD,h1,dite_true] at h3
    have h4 : listed[i] = false:=h3
    simp [F0,h4]
    omega
  have hall : ∀ k,k < t → ∀ d e,L[k]? = some (k,some d,e) → e.p (ρ' d) w':=fun k hk=>hp k hk (hz k hk)
  have hF : frA ρ (fun k=>match L[k]? with | some (_,some d,_)=>ρ' d | _=>undef) L.reverse = ρ':=by
   funext s
   by_cases hs : ∃ k,∃ hk : k < t,l[k].dst = some s
   ·obtain ⟨k,hk,hd⟩:=hs
    obtain ⟨d,e,h1,h2,_⟩:=hds k hk
    rw [hd] at h2
    obtain rfl : s = d:=by simpa using h2
    have hfull : L.take t = L:=List.take_of_length_le (by omega)
    have hi1:=hin t (Nat.le_refl _) k hk hk _ h1
    rw [hfull] at hi1
    rw [db1 hi1 ?_]
    ·simp only [h1]
     have:=hall k hk s e h1
     cases hX : e.X with
     | none=>rfl
     | some Y=>simp only [Option.getD_some]; exact (e.hX _ _ _ this hX).symm
    intro p hp' hps
    rw [← hfull] at hp'
    obtain ⟨j,hj,_,h3,h4,h5⟩:=hmem t (Nat.le_refl _) p hp'
    rw [hps] at h4
    have:=huniq j k hj hk s h4.symm hd
    subst this
    have:=h5.symm.trans h1
    simpa using this
   have hs' : ∀ k (hk : k < t),l[k].dst ≠ some s:=fun k hk hd=>hs ⟨k,hk,hd⟩
   rw [bw6,hout s hs']
   intro p hp' hps
   have hfull : L.take t = L:=List.take_of_length_le (by omega)
   rw [← hfull] at hp'
   obtain ⟨j,hj,_,h3,h4,h5⟩:=hmem t (Nat.le_refl _) p hp'
   exact hs' j hj (by rw [← h4,hps])
  have hrun:=hK (fun k=>match L[k]? with | some (_,some d,_)=>ρ' d | _=>undef) w' hx (dn6 fun p hp'=>by
   have hfull : L.take t = L:=List.take_of_length_le (by omega)
   rw [← hfull] at hp'
   obtain ⟨j,hj,_,h3,h4,h5⟩:=hmem t (Nat.le_refl _) p hp'
   obtain ⟨d,e,h1,h2,_⟩:=hds j hj
   have h6:=h5.symm.trans h1
   simp only [Option.some.injEq] at h6
   subst h6
   simp only [h1]
   have h7:=hall j hj d e h1
   cases hX : e.X with
   | none=>exact h7
   | some Y=>exact e.hY _ _ hX) (c27 (by
   rw [List.pairwise_reverse,List.pairwise_iff_getElem]
   intro i j hi hj hij he1 he2
   obtain ⟨di,ei,h1,_⟩:=hds i (by omega)
   obtain ⟨dj,ej,h2,_⟩:=hds j (by omega)
   have g1:=List.getElem?_eq_getElem hi
   have g2:=List.getElem?_eq_getElem hj
   rw [h1] at g1
   rw [h2] at g2
   simp only [Option.some.injEq] at g1 g2
   rw [← g1] at he2
   rw [← g2] at he1
   rw [← g1,← g2]
   have hne:=hdst j i (by omega) (by omega) (by omega) (hz j (by omega)) (hz i (by omega)) dj ej di ei h2 h1 he1 he2
   have val : ∀ (k d : Nat) (e : Ent),k < t → L[k]? = some (k,some d,e) → e.X.getD ((fun k=>match L[k]? with | some (_,some d,_)=>ρ' d | _=>undef) k) = ρ' d:=by
    intro k d e hk hk2
    have h7:=hall k hk d e hk2
    cases hX : e.X with
    | none=>simp only [Option.getD_none,hk2]
    | some Y=>simp only [Option.getD_some]; exact (e.hX _ _ _ h7 hX).symm
   have v1:=val i di ei (by omega) h1
   have v2:=val j dj ej (by omega) h2
   intro e0
   exact hne (v2.symm.trans (e0.trans v1))))
  rw [hF] at hrun
  unfold WpR at hrun
  have hlen : (l.drop t).length = l.length - t:=by simp
  rw [← hlen]
  refine wpAny_of_seq (l.drop t) t listed a w' (fun j=>by simp) ?_ (hrun ?_ _ a hm')
  ·rw [hcan,hlen]; exact c6
  rw [List.all_eq_true]
  intro o ho
  exact hc o (by simpa using List.mem_of_mem_drop ho)
 have key : ∀ f listed a w',HeadInv .any l.toArray t listed → unl listed t = f → Inv listed a w' → wpAny P .any l.toArray (bj6 n D Q) (f + (l.length - t)) listed a w':=by
  intro f
  induction f with
  | zero=>intro listed a w' inv h0 hI; rw [Nat.zero_add]; exact fin listed a w' inv h0 hI
  | succ f ih=>
   intro listed a w' inv hf hI
   rw [show f + 1 + (l.length - t) = (f + (l.length - t)) + 1 by omega]
   obtain ⟨i0,hi0,hl0,hlow⟩:=a77 (show unl listed t ≠ 0 by omega)
   have hsz2:=inv.size
   have hsz3 : listed.size = l.length:=by simpa using hsz2
   have hr0 : i0 ∈ Region.ready .any l.toArray listed:=by
    rw [mem_ready]
    refine ⟨getD_in (by omega) hl0,l[i0],by simp,fun e he hb=>hlow _ ?_⟩
    have:=(hHd i0 hi0).low e (by rw [hget i0 hi0]; exact he) hb
    omega
   refine ⟨fun he=>absurd (he ▸ hr0) (by simp),fun i hi=>?_⟩
   have hit : i < t:=by
    rcases Nat.lt_or_ge i t with h | h
    ·exact h
    exact absurd hi (tail_waits c4 c5 (by simpa using htl) inv _ i0 rfl hi0 (mem_ready.1 hr0).1 i h)
   obtain ⟨hun,oi,hoi,hdep⟩:=mem_ready.1 hi
   have hoi' : l[i] = oi:=by simpa [hit,show i < l.length by omega] using hoi
   obtain ⟨ρ',hm',hx,hout,hp,hdst⟩:=hI
   obtain ⟨d,e,h1,h2,h3,h4⟩:=hds i hit
   have hH:=hHd i hit
   rw [hget i hit] at hH
   let x : Nat → Value:=fun k=>match L[k]? with | some (_,some d,_)=>ρ' d | _=>undef
   have hdl : ∀ k,F5 l[i].after.toList k = true → listed.getD k false = true:=by
    intro k hk
    obtain ⟨ed,h5,h6,h7⟩:=an0 hk
    rw [← h7]
    exact hdep ed (by rw [← hoi']; exact Array.mem_toList_iff.1 h5) h6
   have hdep2 : bp7 x w' l[i].after.toList ((L.take i).reverse):=dg9 fun p hp' he=>by
    obtain ⟨j,hj,hji,h5,h6,h7⟩:=hmem i (by omega) p hp'
    obtain ⟨d',e',h8,h9,_⟩:=hds j hj
    have h10:=h7.symm.trans h8
    simp only [Option.some.injEq] at h10
    subst h10
    have h11:=hp j hj (hdl j he) d' e' h8
    cases hX : e'.X with
    | none=>simp only [x,h8,Option.getD_none]; exact h11
    | some Y=>exact e'.hY _ _ hX
   have hF : ∀ s,(∀ k (hk : k < t),l[k].dst = some s → k < i ∧ listed.getD k false = true) → frA ρ x ((L.take i).reverse) s = ρ' s:=by
    intro s hs
    by_cases hsx : ∃ k,∃ hk : k < t,l[k].dst = some s
    ·obtain ⟨k,hk,hd⟩:=hsx
     obtain ⟨hki,hkl⟩:=hs k hk hd
     obtain ⟨d',e',h8,h9,_⟩:=hds k hk
     rw [hd] at h9
     obtain rfl : s = d':=by simpa using h9
     rw [db1 (hin i (by omega) k hk hki _ h8) ?_]
     ·have h11:=hp k hk hkl s e' h8
      cases hX : e'.X with
      | none=>simp only [x,h8,Option.getD_none]
      | some Y=>simp only [Option.getD_some]; exact (e'.hX _ _ _ h11 hX).symm
     intro p hp' hps
     obtain ⟨j,hj,_,h5,h6,h7⟩:=hmem i (by omega) p hp'
     rw [hps] at h6
     have:=huniq j k hj hk s h6.symm hd
     subst this
     simpa using h7.symm.trans h8
    have hs' : ∀ k (hk : k < t),l[k].dst ≠ some s:=fun k hk hd=>hsx ⟨k,hk,hd⟩
    rw [bw6,hout s hs']
    intro p hp' hps
    obtain ⟨j,hj,_,h5,h6,h7⟩:=hmem i (by omega) p hp'
    exact hs' j hj (by rw [← h6,hps])
   have hoil : l[i]? = some l[i]:=List.getElem?_eq_getElem (by omega)
   have hslot : ∀ k (hk : k < t) s,l[k].dst = some s → s ∈ M6 l[i] → k < i ∧ listed.getD k false = true:=by
    intro k hk s hks hso
    have hki : k < i:=by
     rcases Nat.lt_or_ge k i with h | h
     ·exact h
     have:=hLt i k (by omega) (by omega) h s (by rw [hget k hk]; exact hks)
     rw [hget i hit] at this
     exact absurd hso this
    have h5:=hH.deps (0 + k,((l.take t)[k]?.bind (·.dst))) (List.mem_append_left _ (List.mem_reverse.2 (List.mem_map.2 ⟨k,List.mem_range.2 hki,rfl⟩))) s (by
     rw [List.getElem?_eq_getElem (by omega)]
     simp only [Option.bind_some,hget k hk,hks])
    rcases h5 with h5 | h5
    ·exact ⟨hki,hdl k (by simpa using h5)⟩
    exact absurd hso h5.1
   refine dt9 (o:=l[i]) (e:=e) (ρ':=ρ') (F:=frA ρ x ((L.take i).reverse)) hoil h2 h3 hH.sel ?_ hm' ?_ ?_ (h4 x w' hx hdep2) ?_
   ·intro k hk
    rw [bw6,hund k hk]
    intro p hp' hps
    obtain ⟨j,hj,_,h5,h6,h7⟩:=hmem i (by omega) p hp'
    obtain ⟨d',e',h8,h9,h10,_⟩:=hds j hj
    rw [hps] at h6
    rw [← h6] at h9
    obtain rfl : k = d':=by simpa using h9
    have:=Nat.le_of_ble_eq_true h10
    omega
   ·intro s hs
    exact hF s fun k hk hks=>hslot k hk s hks hs
   ·intro g b hgd s hs
    refine hF s fun k hk hks=>?_
    have hgi:=hH.guard g b hgd
    have hgt : g < t:=by omega
    have hgs : l[g].dst = some s:=by
     unfold H6 at hs
     rw [List.getElem?_eq_getElem (by omega)] at hs
     simpa using hs
    obtain rfl:=huniq k g hk hgt s hks hgs
    have h5:=hH.deps (0 + k,((l.take t)[k]?.bind (·.dst))) (List.mem_append_left _ (List.mem_reverse.2 (List.mem_map.2 ⟨k,List.mem_range.2 (by omega),rfl⟩))) s (by
     rw [List.getElem?_eq_getElem (by omega)]
     simp only [Option.bind_some,hget k hk,hks])
    rcases h5 with h5 | h5
    ·exact ⟨by omega,hdl k (by simpa using h5)⟩
    exact absurd (by omega) (h5.2 k b hgd)
   ·intro v w2 hx2 hev hfv
    refine ih _ _ _ (inv.set hi hit) ?_ ⟨upd ρ' d v,?_,hx.trans hx2,?_,?_,?_⟩
    ·rw [bs8 (by omega) (getD_both hun),if_pos hit]; omega
    ·rw [h2]; exact hm'.put h3 v
    ·intro s hs
     rw [O8,hout s hs]
     cases hb : Nat.beq s d with
     | false=>rfl
     | true=>exact absurd (by rw [Nat.eq_of_beq_eq_true hb]; exact h2) (hs i hit)
    ·intro k hk hkl d' e' h8
     obtain ⟨d2,e2,h9,h10,_⟩:=hds k hk
     have h11:=h8.symm.trans h9
     simp only [Option.some.injEq,Prod.mk.injEq,true_and] at h11
     obtain ⟨rfl,rfl⟩:=h11
     by_cases hki : i = k
     ·subst hki
      have h12:=h8.symm.trans h1
      simp only [Option.some.injEq,Prod.mk.injEq,true_and] at h12
      obtain ⟨rfl,rfl⟩:=h12
      rw [D9]
      exact hev
     rw [getD_set_ne false hki] at hkl
     have hne : Nat.beq d' d = false:=by
      cases hb : Nat.beq d' d with
      | false=>rfl
      | true=>
       have:=Nat.eq_of_beq_eq_true hb
       subst this
       exact absurd (huniq k i hk hit d' h10 h2) (fun e=>hki e.symm)
     rw [O8 hne]
     exact e'.keep _ _ _ (hp k hk hkl d' e' h8) hx2
    ·have slotd : ∀ k d' e',k < t → L[k]? = some (k,some d',e') → k ≠ i → Nat.beq d' d = false:=by
      intro k d' e' hk h8 hki
      obtain ⟨d2,e2,h9,h10,_⟩:=hds k hk
      have h11:=h8.symm.trans h9
      simp only [Option.some.injEq,Prod.mk.injEq,true_and] at h11
      obtain ⟨rfl,rfl⟩:=h11
      cases hb : Nat.beq d' d with
      | false=>rfl
      | true=>
       have:=Nat.eq_of_beq_eq_true hb
       subst this
       exact absurd (huniq k i hk hit d' h10 h2) hki
     intro j k hj hk hjk hjl hkl dj ej dk ek h8 h9 hf1 hf2
     by_cases hji : j = i
     ·subst hji
      have h12:=h8.symm.trans h1
      simp only [Option.some.injEq,Prod.mk.injEq,true_and] at h12
      obtain ⟨rfl,rfl⟩:=h12
      rw [D9,O8 (slotd k dk ek hk h9 (fun x=>hjk x.symm))]
      rw [getD_set_ne false hjk] at hkl
      intro hne
      obtain ⟨g,hg1,hg2⟩:=ek.hfr hf2 _ _ (hp k hk hkl dk ek h9)
      rw [hg1] at hne
      have:=hfv hf1 g hne
      omega
     by_cases hki : k = i
     ·subst hki
      have h12:=h9.symm.trans h1
      simp only [Option.some.injEq,Prod.mk.injEq,true_and] at h12
      obtain ⟨rfl,rfl⟩:=h12
      rw [D9,O8 (slotd j dj ej hj h8 hji)]
      rw [getD_set_ne false (fun x=>hji x.symm)] at hjl
      intro hne
      obtain ⟨g,hg1,hg2⟩:=ej.hfr hf1 _ _ (hp j hj hjl dj ej h8)
      rw [hg1] at hne
      have:=hfv hf2 g hne.symm
      omega
     rw [O8 (slotd j dj ej hj h8 hji),O8 (slotd k dk ek hk h9 hki)]
     rw [getD_set_ne false (fun x=>hji x.symm)] at hjl
     rw [getD_set_ne false (fun x=>hki x.symm)] at hkl
     exact hdst j k hj hk hjk hjl hkl dj ej dk ek h8 h9 hf1 hf2
 have hs:=key t (Array.replicate l.toArray.size false) act { w with drawn:=w.drawn + 1 }
  ⟨by simp,fun j oj _ hl=>(by rw [getD_replicate_false] at hl; cases hl),fun k _ hk=>getD_in (by simpa using hk) (getD_replicate_false _ _)⟩
  (bs9 _ _ (by simp; omega)) ⟨ρ,hmt,hw1,fun _ _=>rfl,fun k _ hk=>(by rw [getD_replicate_false] at hk; cases hk),fun j k _ _ _ hj=>(by rw [getD_replicate_false] at hj; cases hj)⟩
 rwa [← hsz] at hs
theorem A6 {P : Program} {n : Nat} {Q : G3} {ρ : Fr} {w : World} {id : Nat} {l : List Oper} (t : Nat) (h : Obs P n l ρ w (fun acc=>∀ x w',Ext w w' → b50 x w' acc → bi7 x acc → WpR P n l Q (l.drop t) (frA ρ x acc) w') [] 0 (l.take t)) (hmo : P.follows .mixedOrders = true:=by kernel_rfl) (hchk : ch5 l t = true:=by kernel_rfl) : Wp P n (.region id l.toArray true) Q ρ w:=
 di0 t hmo hchk h
section
variable {P : Program} {n : Nat} {all r : List Oper} {ρ : Fr} {w : World} {K : Acc → Prop} {acc : Acc} {i : Nat} {o : Oper}
theorem b7 {e : Ent} (h1 : ∀ x w',Ext w w' → bp7 x w' o.after.toList acc → WpR P n all (obQ w' o.dst e) [o] (frA ρ x acc) w')
  (h2 : Obs P n all ρ w K ((i,o.dst,e) :: acc) (i + 1) r) : Obs P n all ρ w K acc i (o :: r):=⟨e,h1,h2⟩
theorem J1 (h : K acc) : Obs P n all ρ w K acc i []:=h
theorem j7 {F : Fr} {d : Nat} {v : Value} : obQ w (some d) (Ent.eq v) .normal (upd F d v) w:=⟨rfl,.refl,d,rfl,D9 _ _ _,fun h=>by cases h⟩
theorem D7 {F : Fr} {d : Nat} {v : Value} {w' : World} {p : Value → World → Prop} {h : ∀ v w w',p v w → Ext w w' → p v w'} (hx : Ext w w') (hp : p v w') :
  obQ w (some d) (Ent.of p h) .normal (upd F d v) w':=⟨rfl,hx,d,rfl,by show p _ _; rw [D9]; exact hp,fun h=>by cases h⟩
theorem dh2 {F : Fr} {d g b : Nat} {T : TypeId} {cs : List Value} {w' : World} (hx : Ext w w') (hb : Blk w' g T cs) (hg : w.heap.size ≤ g) (hbg : b ≤ w.heap.size) :
  obQ w (some d) (Ent.new b T cs) .normal (upd F d (.pointer (some ⟨g,0,none⟩))) w':=
 ⟨rfl,hx,d,rfl,⟨g,D9 _ _ _,hb,by omega⟩,fun _ g' h=>by rw [D9] at h; simp only [Value.pointer.injEq,Option.some.injEq,Addr.mk.injEq] at h; omega⟩
theorem J5 {l : List Oper} {Q : G3} (h : ∀ x w',Ext w w' → b50 x w' acc → WpR P n l Q r (frA ρ x acc) w') : ∀ x w',Ext w w' → b50 x w' acc → bi7 x acc → WpR P n l Q r (frA ρ x acc) w':=fun x w' a b _=>h x w' a b
theorem dl3 {l : List Oper} {Q : G3} (h : ∀ x w',Ext w w' → b50 x w' acc → bi7 x acc → WpR P n l Q r (frA ρ x acc) w') : ∀ x w',Ext w w' → b50 x w' acc → bi7 x acc → WpR P n l Q r (frA ρ x acc) w':=h
end
end
end Go.Proofs.YtmkhgjccoolfjaaGreatDoor
end
namespace Go.Proofs.YtmkhgjccoolfjaaGreatDoor
def y5 : List Nat → Nat
 | []=>0
 | d :: r=>d + 1000000000 * y5 r
def Digs (l : List Nat) : Prop:=∀ d ∈ l,d < 1000000000
def a17 (l : List Nat) : Prop:=Digs l ∧ ∀ h : l ≠ [],l.getLast h ≠ 0
theorem Y3 (a b : List Nat) : y5 (a ++ b) = y5 a + 1000000000 ^ a.length * y5 b:=by
 induction a with
 | nil=>simp [y5]
 | cons d r ih=>
  simp only [List.cons_append,y5,ih,List.length_cons,Nat.pow_succ]
  rw [Nat.mul_add,← Nat.mul_assoc,Nat.mul_comm 1000000000 (1000000000 ^ r.length),Nat.add_assoc]
theorem Digs.tail {d : Nat} {r : List Nat} (h : Digs (d :: r)) : Digs r:=fun x hx=>h x (List.mem_cons_of_mem _ hx)
theorem Digs.head {d : Nat} {r : List Nat} (h : Digs (d :: r)) : d < 1000000000:=h d (List.mem_cons_self ..)
theorem Digs.append {a b : List Nat} (h : Digs a) (k : Digs b) : Digs (a ++ b):=fun x hx=>(List.mem_append.1 hx).elim (h x) (k x)
theorem Digs.take {l : List Nat} (h : Digs l) (k : Nat) : Digs (l.take k):=fun x hx=>h x (List.mem_of_mem_take hx)
theorem V0 : Digs []:=fun _ h=>by cases h
theorem Digs.cons {d : Nat} {r : List Nat} (hd : d < 1000000000) (h : Digs r) : Digs (d :: r):=fun x hx=>by
 rcases List.mem_cons.1 hx with rfl | hx
 ·exact hd
 exact h x hx
theorem av5 {l : List Nat} (h : Digs l) : y5 l < 1000000000 ^ l.length:=by
 induction l with
 | nil=>simp [y5]
 | cons d r ih=>
  have h1:=ih h.tail
  have h2:=h.head
  simp only [y5,List.length_cons,Nat.pow_succ]
  omega
theorem bi5 (k : Nat) : y5 (List.replicate k 0) = 0:=by
 induction k with
 | zero=>rfl
 | succ k ih=>simp [List.replicate_succ,y5,ih]
def dgF : Nat → Nat → List Nat
 | 0,_=>[]
 | f + 1,n=>if n = 0 then [] else n % 1000000000 :: dgF f (n / 1000000000)
def dg (n : Nat) : List Nat:=dgF n n
theorem cg2 : ∀ (f g n : Nat),n ≤ f → n ≤ g → dgF f n = dgF g n:=by
 intro f
 induction f with
 | zero=>
  intro g n h _
  obtain rfl : n = 0:=by omega
  cases g <;> simp [dgF]
 | succ f ih=>
  intro g n h1 h2
  cases g with
  | zero=>
   obtain rfl : n = 0:=by omega
   simp [dgF]
  | succ g=>
   simp only [dgF]
   split
   ·rfl
   rw [ih g _ (by omega) (by omega)]
theorem ai0 : dg 0 = []:=rfl
theorem aj7 {n : Nat} (h : n ≠ 0) : dg n = n % 1000000000 :: dg (n / 1000000000):=by
 obtain ⟨m,rfl⟩ : ∃ m,n = m + 1:=⟨n - 1,by omega⟩
 show dgF (m + 1) (m + 1) = _
 simp only [dgF,if_neg h]
 rw [cg2 m ((m + 1) / 1000000000) _ (by omega) (Nat.le_refl _)]
 rfl
theorem A0 (n : Nat) : y5 (dg n) = n:=by
 induction n using Nat.strongRecOn with
 | _ n ih=>
  by_cases h : n = 0
  ·subst h; rfl
  rw [aj7 h,y5,ih _ (by omega)]
  omega
theorem a65 (n : Nat) : Digs (dg n):=by
 induction n using Nat.strongRecOn with
 | _ n ih=>
  by_cases h : n = 0
  ·subst h; exact V0
  rw [aj7 h]
  exact Digs.cons (by omega) (ih _ (by omega))
theorem dr0 {d n : Nat} (hd : d < 1000000000) (h : d ≠ 0 ∨ n ≠ 0) : dg (d + 1000000000 * n) = d :: dg n:=by
 rw [aj7 (by omega)]
 congr 1
 ·omega
 congr 1
 omega
theorem bd1 {l : List Nat} (h : a17 l) : dg (y5 l) = l:=by
 induction l with
 | nil=>rfl
 | cons d r ih=>
  have hr : a17 r:=⟨h.1.tail,fun hne=>by have:=h.2 (by simp); rwa [List.getLast_cons hne] at this⟩
  have h1:=ih hr
  rw [y5,dr0 h.1.head,h1]
  by_cases hn : r = []
  ·subst hn
   left
   exact h.2 (by simp)
  right
  intro e
  rw [e] at h1
  exact hn h1.symm
theorem af9 (n : Nat) : a17 (dg n):=by
 refine ⟨a65 n,?_⟩
 induction n using Nat.strongRecOn with
 | _ n ih=>
  intro hne
  by_cases h : n = 0
  ·subst h; exact absurd rfl hne
  have h1:=aj7 h
  by_cases hq : n / 1000000000 = 0
  ·have h2 : dg n = [n]:=by rw [h1,hq,ai0,Nat.mod_eq_of_lt (by omega)]
   simp only [h2,List.getLast_singleton]
   exact h
  have hne' : dg (n / 1000000000) ≠ []:=by rw [aj7 hq]; simp
  have h3:=ih _ (by omega) hne'
  simp only [h1,List.getLast_cons hne']
  exact h3
def dl (n : Nat) : Nat:=(dg n).length
theorem do3 : dl 0 = 0:=rfl
theorem F8 (n : Nat) : n < 1000000000 ^ dl n:=by
 have:=av5 (a65 n)
 rwa [A0] at this
theorem M7 {n k : Nat} (h : n < 1000000000 ^ k) : dl n ≤ k := by
  induction k generalizing n with
  | zero => obtain rfl : n = 0 := by simpa using h
            simp [dl, ai0]
  | succ k ih =>
    by_cases h0 : n = 0
    · subst h0; simp [dl, ai0]
    · have h1 : dl n = dl (n / 1000000000) + 1 := by unfold dl; rw [aj7 h0]; rfl
      have h2 := ih (n := n / 1000000000) (by rw [Nat.pow_succ] at h; omega)
      omega
theorem J4 {a b : Nat} (h : a ≤ b) : dl a ≤ dl b:=M7 (Nat.lt_of_le_of_lt h (F8 b))
theorem aj4 (a b : Nat) : dl (a * b) ≤ dl a + dl b:=by
 refine M7 ?_
 rw [Nat.pow_add]
 exact Nat.mul_lt_mul'' (F8 a) (F8 b)
theorem du6 (a b : Nat) : dl (a + b) ≤ max (dl a) (dl b) + 1:=by
 refine M7 ?_
 have h1:=F8 a
 have h2:=F8 b
 have h3 : 1000000000 ^ dl a ≤ 1000000000 ^ max (dl a) (dl b):=Nat.pow_le_pow_right (by omega) (Nat.le_max_left ..)
 have h4 : 1000000000 ^ dl b ≤ 1000000000 ^ max (dl a) (dl b):=Nat.pow_le_pow_right (by omega) (Nat.le_max_right ..)
 rw [Nat.pow_succ]
 omega
theorem bx3 {n : Nat} (h : n ≠ 0) : 0 < dl n:=by unfold dl; rw [aj7 h]; simp
theorem K6 {n : Nat} : dl n = 0 ↔ n = 0:=by
 constructor
 ·intro h
  by_cases h0 : n = 0
  ·exact h0
  have:=bx3 h0; omega
 rintro rfl; rfl
theorem W8 {l : List Nat} (h : a17 l) (hne : l ≠ []) : 1000000000 ^ (l.length - 1) ≤ y5 l:=by
 induction l with
 | nil=>exact absurd rfl hne
 | cons d r ih=>
  by_cases hr : r = []
  ·subst hr
   have:=h.2 (by simp)
   simp [y5] at this ⊢
   omega
  have hc : a17 r:=⟨h.1.tail,fun hn=>by have:=h.2 (by simp); rwa [List.getLast_cons hn] at this⟩
  have h1:=ih hc hr
  have h2 : 0 < r.length:=List.length_pos_iff.2 hr
  simp only [List.length_cons,y5]
  obtain ⟨k,hk⟩ : ∃ k,r.length = k + 1:=⟨r.length - 1,by omega⟩
  rw [hk] at h1 ⊢
  simp only [Nat.add_sub_cancel,Nat.pow_succ] at h1 ⊢
  omega
theorem ay5 {l : List Nat} {j : Nat} (hd : Digs l) (hj : j ≤ l.length) (hz : ∀ i,j ≤ i → i < l.length → l.getD i 0 = 0) (hl : j = 0 ∨ l.getD (j - 1) 0 ≠ 0) :
  l.take j = dg (y5 l):=by
 have h1 : y5 (l.drop j) = 0:=by
  have h2 : l.drop j = List.replicate (l.length - j) 0:=by
   refine List.eq_replicate_iff.2 ⟨by simp,fun x hx=>?_⟩
   obtain ⟨i,hi,rfl⟩:=List.mem_iff_getElem.1 hx
   simp at hi
   have h3:=hz (j + i) (by omega) (by omega)
   simp [List.getD_eq_getElem?_getD,List.getElem?_eq_getElem (show j + i < l.length by omega)] at h3
   simpa using h3
  rw [h2,bi5]
 have h2 : y5 l = y5 (l.take j):=by
  conv=>lhs; rw [← List.take_append_drop j l]
  rw [Y3,h1]
  omega
 rw [h2,bd1]
 refine ⟨hd.take j,fun hne=>?_⟩
 have hj0 : 0 < j:=by
  rcases Nat.eq_zero_or_pos j with e | e
  ·subst e; simp at hne
  exact e
 rcases hl with hl | hl
 ·omega
 rw [List.getLast_eq_getElem]
 simp only [List.length_take,List.getElem_take]
 have e : min j l.length - 1 = j - 1:=by omega
 simp only [e]
 simpa [List.getD_eq_getElem?_getD,List.getElem?_eq_getElem (show j - 1 < l.length by omega)] using hl
theorem b64 (l : List Nat) {k : Nat} (hk : k < l.length) : y5 l = y5 (l.take k) + 1000000000 ^ k * (l.getD k 0 + 1000000000 * y5 (l.drop (k + 1))):=by
 have h1 : l = l.take k ++ (l.getD k 0 :: l.drop (k + 1)):=by
  have : l.getD k 0 = l[k]:=by simp [List.getD_eq_getElem?_getD,List.getElem?_eq_getElem hk]
  rw [this,List.getElem_cons_drop,List.take_append_drop]
 conv=>lhs; rw [h1]
 rw [Y3,y5,List.length_take,Nat.min_eq_left (by omega)]
theorem am6 {a b : List Nat} {k : Nat} (ha : Digs a) (hka : k < a.length) (hkb : k < b.length) (hd : a.drop (k + 1) = b.drop (k + 1)) (hlt : a.getD k 0 < b.getD k 0) : y5 a < y5 b:=by
 rw [b64 a hka,b64 b hkb,hd]
 have h1:=av5 (ha.take k)
 rw [List.length_take,Nat.min_eq_left (by omega)] at h1
 have h2 : 1000000000 ^ k * (a.getD k 0 + 1000000000 * y5 (b.drop (k + 1))) + 1000000000 ^ k ≤ 1000000000 ^ k * (b.getD k 0 + 1000000000 * y5 (b.drop (k + 1))):=by
  rw [← Nat.mul_succ]
  exact Nat.mul_le_mul_left _ (by omega)
 omega
theorem ah9 {a b : List Nat} (ha : a17 a) (hb : a17 b) (h : a.length < b.length) : y5 a < y5 b:=by
 have h1:=av5 ha.1
 have h2:=W8 hb (by intro e; subst e; simp at h)
 have h3 : 1000000000 ^ a.length ≤ 1000000000 ^ (b.length - 1):=Nat.pow_le_pow_right (by omega) (by omega)
 omega
theorem a00 {a b : List Nat} {k : Nat} (hka : k < a.length) (hkb : k < b.length) (hd : a.drop (k + 1) = b.drop (k + 1)) (h : a.getD k 0 = b.getD k 0) : a.drop k = b.drop k:=by
 have h1 : a.getD k 0 = a[k]:=by simp [List.getD_eq_getElem?_getD,List.getElem?_eq_getElem hka]
 have h2 : b.getD k 0 = b[k]:=by simp [List.getD_eq_getElem?_getD,List.getElem?_eq_getElem hkb]
 rw [← List.getElem_cons_drop hka,← List.getElem_cons_drop hkb,hd,← h1,← h2,h]
def dt2 (c : Int) (a b : Nat) : Prop:=(c < 0 ↔ a < b) ∧ (0 < c ↔ b < a)
theorem Digs.getD {l : List Nat} (h : Digs l) (m : Nat) : l.getD m 0 < 1000000000:=by
 rw [List.getD_eq_getElem?_getD]
 cases hm : l[m]? with
 | none=>simp
 | some d=>exact h d (List.mem_of_getElem? hm)
theorem N1 (n m : Nat) : (dg n).getD m 0 < 1000000000:=(a65 n).getD m
def am0 (x : Nat → Int) : Nat → Int
 | 0=>0
 | n + 1=>am0 x n + 1000000000 ^ n * x n
theorem c58 (x y : Nat → Int) (n : Nat) : am0 (fun i=>x i + y i) n = am0 x n + am0 y n:=by
 induction n with
 | zero=>rfl
 | succ n ih=>simp only [am0,ih,Int.mul_add]; omega
theorem de0 (x y : Nat → Int) (n : Nat) : am0 (fun i=>x i - y i) n = am0 x n - am0 y n:=by
 induction n with
 | zero=>rfl
 | succ n ih=>simp only [am0,ih,Int.mul_sub]; omega
theorem c56 (x : Nat → Int) (c : Int) (n : Nat) : am0 (fun i=>x i * c) n = am0 x n * c:=by
 induction n with
 | zero=>simp [am0]
 | succ n ih=>simp only [am0,ih,Int.add_mul,Int.mul_assoc]
theorem cx4 (l : List Nat) : ∀ n,am0 (fun i=>(l.getD i 0 : Int)) n = (y5 (l.take n) : Int):=by
 intro n
 induction n with
 | zero=>rfl
 | succ n ih=>
  simp only [am0,ih]
  by_cases h : n < l.length
  ·rw [List.take_succ_eq_append_getElem h,Y3,List.length_take,Nat.min_eq_left (by omega)]
   have : l.getD n 0 = l[n]:=by simp [List.getD_eq_getElem?_getD,List.getElem?_eq_getElem h]
   rw [this]
   simp only [y5,Nat.mul_zero,Nat.add_zero,Int.natCast_add,Int.natCast_mul,Int.natCast_pow]
   rfl
  rw [List.take_of_length_le (by omega),List.take_of_length_le (by omega)]
  simp [List.getD_eq_getElem?_getD,List.getElem?_eq_none (show l.length ≤ n by omega)]
theorem a26 {a n : Nat} (h : dl a ≤ n) : am0 (fun i=>((dg a).getD i 0 : Int)) n = a:=by
 rw [cx4,List.take_of_length_le h,A0]
theorem bo8 {x : Int} (h : x.tmod 1000000000 < 0) : x.tmod 1000000000 + 1000000000 = x % 1000000000 ∧ x.tdiv 1000000000 - 1 = x / 1000000000:=by
 rcases Int.le_total 0 x with h0 | h0
 ·rw [Int.tmod_eq_emod_of_nonneg h0] at h; omega
 obtain ⟨y,rfl⟩ : ∃ y : Int,x = -y:=⟨-x,by omega⟩
 rw [Int.neg_tmod,Int.tmod_eq_emod_of_nonneg (by omega)] at h ⊢
 rw [Int.neg_tdiv,Int.tdiv_eq_ediv_of_nonneg (by omega)]
 omega
theorem bp1 {x : Int} (h : ¬ x.tmod 1000000000 < 0) : x.tmod 1000000000 = x % 1000000000 ∧ x.tdiv 1000000000 = x / 1000000000:=by
 rcases Int.le_total 0 x with h0 | h0
 ·rw [Int.tmod_eq_emod_of_nonneg h0,Int.tdiv_eq_ediv_of_nonneg h0]; exact ⟨rfl,rfl⟩
 obtain ⟨y,rfl⟩ : ∃ y : Int,x = -y:=⟨-x,by omega⟩
 rw [Int.neg_tmod,Int.tmod_eq_emod_of_nonneg (by omega)] at h ⊢
 rw [Int.neg_tdiv,Int.tdiv_eq_ediv_of_nonneg (by omega)]
 omega
theorem cj9 {v : Nat} {p : Int} {i : Nat} {c x : Int} (h : (v : Int) + 1000000000 ^ i * c = p) :
  ((v + 1000000000 ^ i * ((c + x) % 1000000000).toNat : Nat) : Int) + 1000000000 ^ (i + 1) * ((c + x) / 1000000000) = p + 1000000000 ^ i * x:=by
 have h1 : ((c + x) % 1000000000).toNat = (c + x) % 1000000000:=Int.toNat_of_nonneg (by omega)
 have h2 : (c + x) % 1000000000 + 1000000000 * ((c + x) / 1000000000) = c + x:=by omega
 have h3 : (1000000000 : Int) ^ i * ((c + x) % 1000000000) + 1000000000 ^ i * (1000000000 * ((c + x) / 1000000000)) = 1000000000 ^ i * c + 1000000000 ^ i * x:=by
  rw [← Int.mul_add,h2,Int.mul_add]
 rw [Int.natCast_add,Int.natCast_mul,h1,Int.natCast_pow,Int.pow_succ,Int.mul_assoc]
 have h4 : ((1000000000 : Nat) : Int) = 1000000000:=rfl
 rw [h4]
 omega
theorem b27 (l : List Nat) (d : Nat) : ∀ {k : Nat},k < l.length → y5 (l.set k d) + 1000000000 ^ k * l.getD k 0 = y5 l + 1000000000 ^ k * d:=by
 induction l with
 | nil=>intro k hk; simp at hk
 | cons c r ih=>
  intro k hk
  cases k with
  | zero=>simp [y5]; omega
  | succ k=>
   have:=ih (k:=k) (by simpa using hk)
   simp only [List.set_cons_succ,y5,List.getD_cons_succ,Nat.pow_succ]
   have e1 : 1000000000 ^ k * 1000000000 * r.getD k 0 = 1000000000 * (1000000000 ^ k * r.getD k 0):=by rw [Nat.mul_comm (1000000000 ^ k),Nat.mul_assoc]
   have e2 : 1000000000 ^ k * 1000000000 * d = 1000000000 * (1000000000 ^ k * d):=by rw [Nat.mul_comm (1000000000 ^ k),Nat.mul_assoc]
   rw [e1,e2]
   omega
theorem Digs.set {l : List Nat} (h : Digs l) {d : Nat} (hd : d < 1000000000) (k : Nat) : Digs (l.set k d):=fun x hx=>by
 rcases List.mem_or_eq_of_mem_set hx with h1 | h1
 ·exact h x h1
 omega
theorem ab7 {l : List Nat} {k d : Nat} (h : k < l.length) : (l.set k d).getD k 0 = d:=by simp [List.getD_eq_getElem?_getD,h]
theorem Z5 {l : List Nat} {k j d : Nat} (h : j ≠ k) : (l.set k d).getD j 0 = l.getD j 0:=by simp [List.getD_eq_getElem?_getD,List.getElem?_set_ne (Ne.symm h)]
theorem dc3 {o : List Nat} {k c m p : Nat} (hk : k < o.length) (h : y5 o + 1000000000 ^ k * c = p) :
  y5 (o.set k ((m + o.getD k 0 + c) % 1000000000)) + 1000000000 ^ (k + 1) * ((m + o.getD k 0 + c) / 1000000000) = p + 1000000000 ^ k * m:=by
 have h1:=b27 o ((m + o.getD k 0 + c) % 1000000000) hk
 have h2 : (m + o.getD k 0 + c) % 1000000000 + 1000000000 * ((m + o.getD k 0 + c) / 1000000000) = m + o.getD k 0 + c:=by omega
 have h3 : 1000000000 ^ k * ((m + o.getD k 0 + c) % 1000000000) + 1000000000 ^ k * (1000000000 * ((m + o.getD k 0 + c) / 1000000000)) = 1000000000 ^ k * m + 1000000000 ^ k * o.getD k 0 + 1000000000 ^ k * c:=by
  rw [← Nat.mul_add,h2,Nat.mul_add,Nat.mul_add]
 rw [Nat.pow_succ,Nat.mul_assoc]
 omega
theorem ag7 {l : List Nat} {i : Nat} (h : i < l.length) : y5 (l.take (i + 1)) = y5 (l.take i) + 1000000000 ^ i * l.getD i 0:=by
 rw [List.take_succ_eq_append_getElem h,Y3,List.length_take,Nat.min_eq_left (by omega)]
 simp [y5,List.getD_eq_getElem?_getD,List.getElem?_eq_getElem h]
end Go.Proofs.YtmkhgjccoolfjaaGreatDoor
section
namespace Go.Proofs.YtmkhgjccoolfjaaGreatDoor
open Go Go.RowKit Tryz
abbrev Sl (S : Nat → Prop) (T : TypeId) (k : IntKind) (w : World) (v : Value) (l : List Nat) : Prop:=Row S T 1 w v l.length (l.map fun d : Nat=>Value.int k d)
abbrev y6 (S : Nat → Prop) (T : TypeId) (k : IntKind) (w : World) (v : Value) (n : Nat) : Prop:=Sl S T k w v (dg n)
theorem b75 {k : IntKind} {l : List Nat} : ∀ u ∈ l.map (fun d : Nat=>Value.int k d),u.oneCell' = true:=fun u hu=>by
 obtain ⟨d,_,rfl⟩:=List.mem_map.1 hu
 rfl
section
variable {P : Program} {n : Nat} {Q : G3} {ρ : Fr} {w : World} {all rest : List Oper} {d : Tmp} {ty : TypeId} {pos : String} {aft : Array Edge}
theorem B0 {t T : TypeId} [st : SlT P t T] {b : Nat} {z : Value} {agg : Bool} [ti : TyI P T 1 b z agg] {x ix : Operand} {S : Nat → Prop} {w0 : World} {v : Value} {m : Nat} {cs : List Value} {I : Int} {k : IntKind} {i : Nat}
  (hv : ev ρ x = v) (hi : ev ρ ix = .int k I) (hI : I = (i : Int)) (hr : Row S T 1 w0 v m cs) (h1 : i < m)
  (h : WpR P n all Q rest (upd ρ d (.pointer (some (adr v i)))) w) : WpR P n all Q (⟨some d,.indexAddr t x ix,ty,pos,aft,none⟩ :: rest) ρ w:=by
 subst hI
 exact bt7 hv hi hr (by omega) (by omega) (by simpa using h)
theorem s6 {T : TypeId} {b : Nat} {z : Value} [ti : TyI P T 1 b z false] {x : Operand} {S : Nat → Prop} {v : Value} {i : Nat} {l : List Nat} {k : IntKind}
  (hx : ev ρ x = .pointer (some (adr v i))) (hr : Sl S T k w v l) (hi : i < l.length) (h : WpR P n all Q rest (upd ρ d (.int k (l.getD i 0 : Nat))) w) :
  WpR P n all Q (⟨some d,.load T x,ty,pos,aft,none⟩ :: rest) ρ w:=by
 refine bg7 hx hr (u:=.int k (l.getD i 0 : Nat)) ?_ h
 simp [List.getD_eq_getElem?_getD,List.getElem?_eq_getElem hi]
theorem L8 {t T : TypeId} [st : SlT P t T] {b : Nat} {z : Value} {agg : Bool} [ti : TyI P T 1 b z agg] {x ix : Operand} {g m cap : Nat} {I : Int} {k : IntKind} {i : Nat}
  (hv : ev ρ x = .slice (some ⟨g,0,none⟩) m cap) (hi : ev ρ ix = .int k I) (hI : I = (i : Int)) (h1 : i < m)
  (h : WpR P n all Q rest (upd ρ d (.pointer (some ⟨g,i,none⟩))) w) : WpR P n all Q (⟨some d,.indexAddr t x ix,ty,pos,aft,none⟩ :: rest) ρ w:=by
 subst hI
 exact cj8 hv hi (by omega) (by omega) (by simpa using h)
theorem bc1 {T : TypeId} {b : Nat} {z : Value} [ti : TyI P T 1 b z false] {x : Operand} {g i : Nat} {T' : TypeId} {l : List Nat} {k : IntKind}
  (hx : ev ρ x = .pointer (some ⟨g,i,none⟩)) (hb : Blk w g T' (l.map fun d : Nat=>.int k d)) (hi : i < l.length) (h : WpR P n all Q rest (upd ρ d (.int k (l.getD i 0 : Nat))) w) :
  WpR P n all Q (⟨some d,.load T x,ty,pos,aft,none⟩ :: rest) ρ w:=
 i1 hx hb (by simp [List.getD_eq_getElem?_getD,List.getElem?_eq_getElem hi]) h
theorem Z4 {t : TypeId} {b : Nat} {z : Value} {agg : Bool} [ti : TyI P t 1 b z agg] {x y : Operand} {g i : Nat} {T : TypeId} {l : List Nat} {k : IntKind} {I : Int} {c : Nat}
  (hx : ev ρ x = .pointer (some ⟨g,i,none⟩)) (hy : ev ρ y = .int k I) (hI : I = (c : Int)) (hb : Blk w g T (l.map fun d : Nat=>.int k d)) (hi : i < l.length)
  (h : ∀ w',Wrt g w w' → Blk w' g T ((l.set i c).map fun d : Nat=>.int k d) → WpR P n all Q rest ρ w') : WpR P n all Q (⟨none,.store t x y,ty,pos,aft,none⟩ :: rest) ρ w:=by
 subst hI
 refine L6 hx hy hb (by simpa using hi) rfl fun w' h1 h2=>h w' h1 ?_
 rw [List.map_set]
 exact h2
end
theorem bm3 {S : Nat → Prop} {w : World} {v : Value} {l : List Nat} (h : Sl S 227 .u32 w v l) (hd : Digs l) :
  Gives prog 194 [v] w fun v' w'=>w' = w ∧ y6 S 227 .u32 w v' (y5 l):=by
 have hlen:=h.len_le
 unfold maxLen at hlen
 refine l7 func194 rfl rfl rfl ?_
 repeat (first | refine wW ?_ | refine B5 (by conv=>(lhs; whnf)) (by assumption) ?_)
 first | refine o9 ?_ | refine I8 ?_ | refine F7 ?_ | skip
 refine ay3 [(3,3),(6,17)] (fun ρ w'=>w' = w ∧ ∃ j : Nat,ρ 3 = .int .i64 j ∧ j ≤ l.length ∧ (∀ i,j ≤ i → i < l.length → l.getD i 0 = 0) ∧ (j = 0 ∨ l.getD (j - 1) 0 ≠ 0)) ?_ ?_
 ·try refine o9 ?_
  refine H3 [(3,3),(6,17)] (fun j ρ w'=>w' = w ∧ ρ 3 = .int .i64 j ∧ j ≤ l.length ∧ ∀ i,j ≤ i → i < l.length → l.getD i 0 = 0) l.length ⟨rfl,rfl,Nat.le_refl _,fun i h1 h2=>by omega⟩ ?_
  rintro j u w' ⟨rfl,h3,hj,hz⟩
  refine j9 3 h3 ?_
  clear h3
  repeat (first | refine wW ?_ | refine d7 ?_ | refine Z3 rfl rfl ?_)
  refine G4 rfl rfl ?_ ?_ <;> intro hc
  ·obtain ⟨m,rfl⟩ : ∃ m,j = m + 1:=⟨j - 1,by omega⟩
   repeat (first | refine B0 (i:=m) (by conv=>(lhs; whnf)) rfl (by omega) h (by omega) ?_ | refine s6 rfl h (by omega) ?_ | refine wW ?_ | refine r4 rfl rfl ?_ | refine s9 rfl ?_ | refine ac6 rfl rfl ?_ | refine A3 rfl rfl ?_)
   try refine i7 ?_
   refine j4 rfl ?_ ?_ <;> intro hc2
   ·repeat (first | refine wW ?_ | refine K7 ?_ | refine wp_skip ?_ | refine ae6 ?_ | refine A3 rfl rfl ?_)
    refine ⟨by (repeat (first | refine j2 rfl ?_ | exact i6 | refine j3 rfl ?_ | exact f5)),m,by omega,rfl,congrArg (Value.int .i64) (by omega),by omega,fun i h1 h2=>?_⟩
    by_cases e : i = m
    ·subst e; omega
    exact hz i (by omega) h2
   repeat (first | refine N7 ?_ | refine wp_exit ?_ | refine ac8 ?_ | refine Y1 rfl ?_)
   exact ⟨by (repeat (first | refine j2 rfl ?_ | exact i6 | refine j3 rfl ?_ | exact f5)),rfl,m + 1,rfl,hj,hz,.inr (by simpa using hc2)⟩
  repeat (first | refine wW ?_ | refine wp_exit ?_ | refine ac8 ?_ | refine Y1 rfl ?_ | refine y7 rfl rfl rfl ?_ | refine q8 rfl ?_ | refine wp_cond_false rfl ?_)
  exact ⟨by (repeat (first | refine j2 rfl ?_ | exact i6 | refine j3 rfl ?_ | exact f5)),rfl,j,rfl,hj,hz,.inl (by omega)⟩
 rintro u w' ⟨rfl,j,h3,hj,hz,hl⟩
 refine j9 3 h3 ?_
 clear h3
 repeat (first | refine c57 (k:=j) (by conv=>(lhs; whnf)) h rfl rfl rfl hj ?_ | refine wW ?_)
 intro v' hv'
 repeat refine wW ?_
 refine q5 rfl ⟨rfl,?_⟩
 have e:=ay5 hd hj hz hl
 have e2 : (dg (y5 l)).length = j:=by rw [← e,List.length_take]; omega
 show Row _ _ _ _ _ _ _
 rw [e2,← e]
 simpa [List.map_take] using hv'
theorem af2 {S : Nat → Prop} {w : World} {va vb : Value} {a b : Nat} (ha : y6 S 227 .u32 w va a) (hb : y6 S 227 .u32 w vb b) :
  Gives prog 210 [va,vb] w fun v' w'=>Ext w w' ∧ ∃ c : Int,v' = .int .i64 c ∧ dt2 c a b:=by
 have la:=ha.len_le
 have lb:=hb.len_le
 unfold maxLen at la lb
 refine l7 func210 rfl rfl rfl ?_
 repeat (first | refine wW ?_ | refine d7 ?_ | refine B5 (by conv=>(lhs; whnf)) (by assumption) ?_ | refine by7 rfl rfl ?_)
 have hA:=af9 a
 have hB:=af9 b
 try refine i7 ?_
 refine j4 rfl ?_ ?_ <;> intro hc
 ·repeat (first | refine wW ?_ | refine r8 ?_ | refine B5 (by conv=>(lhs; whnf)) (by assumption) ?_ | refine A3 rfl rfl ?_)
  refine q5 rfl ⟨.refl,_,rfl,?_⟩
  rcases Nat.lt_or_gt_of_ne (fun e : (dg a).length = (dg b).length=>hc (by rw [e])) with h | h
  ·have:=ah9 hA hB h
   rw [A0,A0] at this
   exact ⟨by omega,by omega⟩
  have:=ah9 hB hA h
  rw [A0,A0] at this
  exact ⟨by omega,by omega⟩
 ·have hlen : (dg a).length = (dg b).length:=by omega
  clear hc
  repeat (first | refine wW ?_ | refine d7 ?_ | refine wp_skip ?_ | refine B5 (by conv=>(lhs; whnf)) (by assumption) ?_ | refine A3 rfl rfl ?_)
  try refine o9 ?_
  refine H3 [(4,5),(19,42)] (fun k ρ w'=>Ext w w' ∧ ρ 5 = .int .i64 (k - 1) ∧ k ≤ (dg a).length ∧ (dg a).drop k = (dg b).drop k) (dg a).length ⟨.refl,rfl,Nat.le_refl _,by rw [List.drop_of_length_le (Nat.le_refl _),List.drop_of_length_le (by omega)]⟩ ?_
  rintro k u w1 ⟨k1,h5,hk,hd⟩
  refine j9 5 h5 ?_
  clear h5
  replace ha:=ha.to k1
  replace hb:=hb.to k1
  repeat (first | refine wW ?_ | refine d7 ?_ | refine aj0 rfl rfl ?_)
  try refine i7 ?_
  refine j4 rfl ?_ ?_ <;> intro hc
  ·obtain ⟨m,rfl⟩ : ∃ m,k = m + 1:=⟨k - 1,by omega⟩
   repeat (first | refine D3 ?_ | refine B4 ?_ | refine r6 ?_ | refine wp_skip ?_)
   refine A6 8 ?_
   apply b7
   ·intro x w1 k1 hd
    refine r7 ?_
    refine d6 ?_
    exact j7
   apply b7
   ·intro x w1 k1 hd
    refine r7 ?_
    refine d6 ?_
    exact j7
   apply b7
   ·intro x w1 k1 hd
    refine B0 (i:=m) (by conv=>(lhs; whnf)) rfl (by omega) (ha.to k1) (by omega) ?_
    refine d6 ?_
    exact j7
   apply b7
   ·intro x w1 k1 hd
    refine s6 rfl (ha.to k1) (by omega) ?_
    refine d6 ?_
    exact j7
   apply b7
   ·intro x w1 k1 hd
    refine r7 ?_
    refine d6 ?_
    exact j7
   apply b7
   ·intro x w1 k1 hd
    refine r7 ?_
    refine d6 ?_
    exact j7
   apply b7
   ·intro x w1 k1 hd
    refine B0 (i:=m) (by conv=>(lhs; whnf)) rfl (by omega) (hb.to k1) (by omega) ?_
    refine d6 ?_
    exact j7
   apply b7
   ·intro x w1 k1 hd
    refine s6 rfl (hb.to k1) (by omega) ?_
    refine d6 ?_
    exact j7
   refine J1 (J5 ?_)
   intro x w2 k2 _
   have hda:=N1 a m
   have hdb:=N1 b m
   repeat (first | refine wW ?_ | refine by7 rfl rfl ?_)
   try refine i7 ?_
   refine j4 rfl ?_ ?_ <;> intro hc2
   ·repeat (first | refine D3 ?_)
    replace ha:=ha.to k2
    replace hb:=hb.to k2
    refine A6 11 ?_
    apply b7
    ·intro x w1 k1 hd
     refine r7 ?_
     refine d6 ?_
     exact j7
    apply b7
    ·intro x w1 k1 hd
     refine r7 ?_
     refine d6 ?_
     exact j7
    apply b7
    ·intro x w1 k1 hd
     refine B0 (i:=m) (by conv=>(lhs; whnf)) rfl (by omega) (ha.to k1) (by omega) ?_
     refine d6 ?_
     exact j7
    apply b7
    ·intro x w1 k1 hd
     refine s6 rfl (ha.to k1) (by omega) ?_
     refine d6 ?_
     exact j7
    apply b7
    ·intro x w1 k1 hd
     refine Q5 rfl (wrap_i64 (by omega) (by omega)) ?_
     refine d6 ?_
     exact j7
    apply b7
    ·intro x w1 k1 hd
     refine r7 ?_
     refine d6 ?_
     exact j7
    apply b7
    ·intro x w1 k1 hd
     refine r7 ?_
     refine d6 ?_
     exact j7
    apply b7
    ·intro x w1 k1 hd
     refine B0 (i:=m) (by conv=>(lhs; whnf)) rfl (by omega) (hb.to k1) (by omega) ?_
     refine d6 ?_
     exact j7
    apply b7
    ·intro x w1 k1 hd
     refine s6 rfl (hb.to k1) (by omega) ?_
     refine d6 ?_
     exact j7
    apply b7
    ·intro x w1 k1 hd
     refine Q5 rfl (wrap_i64 (by omega) (by omega)) ?_
     refine d6 ?_
     exact j7
    apply b7
    ·intro x w1 k1 hd
     refine A3 rfl rfl ?_
     refine d6 ?_
     exact j7
    refine J1 (J5 ?_)
    intro x w3 k3 _
    repeat (first | refine wW ?_ | refine r8 ?_ | refine N6 ?_)
    refine q5 rfl ⟨k1.trans (k2.trans k3),_,rfl,?_⟩
    rcases Nat.lt_or_gt_of_ne (fun e : (dg a).getD m 0 = (dg b).getD m 0=>hc2 (by rw [e])) with h | h
    ·have:=am6 hA.1 (by omega) (by omega) hd h
     rw [A0,A0] at this
     exact ⟨by omega,by omega⟩
    have:=am6 hB.1 (by omega) (by omega) hd.symm h
    rw [A0,A0] at this
    exact ⟨by omega,by omega⟩
   repeat (first | refine wW ?_ | refine wp_skip ?_ | refine A3 rfl rfl ?_)
   refine ⟨by (repeat (first | refine j2 rfl ?_ | exact i6 | refine j3 rfl ?_ | exact f5)),m,by omega,k1.trans k2,congrArg (Value.int .i64) (by omega),by omega,a00 (by omega) (by omega) hd (by omega)⟩
  repeat (first | refine wW ?_ | refine wp_exit ?_)
  refine q5 rfl ⟨k1,_,rfl,?_⟩
  obtain rfl : k = 0:=by omega
  simp only [List.drop_zero] at hd
  have h:=congrArg y5 hd
  rw [A0,A0] at h
  exact ⟨by omega,by omega⟩
theorem dn3 {x : Int} (h0 : -9000000000000000000 ≤ x) (h1 : x ≤ 9000000000000000000) : -9000000000000000000 ≤ x.tdiv 1000000000 ∧ x.tdiv 1000000000 ≤ 9000000000000000000:=by
 by_cases h : x.tmod 1000000000 < 0
 ·have:=bo8 h; omega
 have:=bp1 h; omega
def d43 (n : Nat) (k i : Nat) (c : Int) : Prop:=
 -2100000000 ≤ c ∧ c ≤ 4400000000 ∧ ((i < n ∧ (n - i) + 9223372036854775808 ≤ k) ∨ (n ≤ i ∧ i ≤ n + 2 ∧ c < 1000000000 ^ (n + 2 - i) ∧ c.toNat ≤ k))
theorem cz9 {n k i : Nat} {c x : Int} (h : d43 n k i c) (hx : -2000000000 ≤ x ∧ x ≤ 4300000000000000000) (hx0 : n ≤ i → x = 0) (hgo : i < n ∨ c ≠ 0) (h0 : n ≤ i → 0 ≤ c) :
  ∃ k',k' < k ∧ d43 n k' (i + 1) ((c + x) / 1000000000):=by
 obtain ⟨h1,h2,h3 | ⟨h3,h4,h5,h6⟩⟩:=h
 ·by_cases h : i + 1 < n
  ·exact ⟨(n - (i + 1)) + 9223372036854775808,by omega,by omega,by omega,.inl ⟨h,Nat.le_refl _⟩⟩
  refine ⟨((c + x) / 1000000000).toNat,by omega,by omega,by omega,.inr ⟨by omega,by omega,?_,Nat.le_refl _⟩⟩
  have e : n + 2 - (i + 1) = 2:=by omega
  rw [e]
  omega
 have hc:=h0 h3
 rw [hx0 h3,Int.add_zero]
 have hc1 : 1 ≤ c:=by omega
 have e : n + 2 - i ≠ 0:=by
  intro e
  rw [e] at h5
  simp at h5
  omega
 refine ⟨(c / 1000000000).toNat,by omega,by omega,by omega,.inr ⟨by omega,by omega,?_,Nat.le_refl _⟩⟩
 obtain ⟨m,hm⟩ : ∃ m,n + 2 - i = m + 1:=⟨n + 2 - i - 1,by omega⟩
 rw [hm,Int.pow_succ] at h5
 have e2 : n + 2 - (i + 1) = m:=by omega
 rw [e2]
 omega
theorem dq2 {v : Nat} {l : List Nat} {c : Int} {tot : Nat} (hd : Digs l) (h : (y5 l : Int) + 1000000000 ^ l.length * c = (tot : Int)) : 0 ≤ c:=by
 have h1:=av5 hd
 have h2 : ((y5 l : Nat) : Int) < ((1000000000 ^ l.length : Nat) : Int):=Int.ofNat_lt.2 h1
 rw [Int.natCast_pow] at h2
 rcases Int.lt_or_le c 0 with hc | hc
 ·have h3 : (1000000000 : Int) ^ l.length * c ≤ 1000000000 ^ l.length * (-1):=Int.mul_le_mul_of_nonneg_left (by omega) (Int.le_of_lt (Int.pow_pos (by omega)))
  have h4 : ((1000000000 : Nat) : Int) = 1000000000:=rfl
  rw [h4] at h2
  omega
 exact hc
theorem a97 {S : Nat → Prop} {w : World} {n F tot : Nat} [CallI prog F] {caps : List Value} {x : Nat → Int} (hS : Up S w) (hn : n ≤ 1099511627776)
  (hx : ∀ i,i < n → -2000000000 ≤ x i ∧ x i ≤ 4300000000000000000) (ht : am0 x n = (tot : Int))
  (hF : ∀ i : Nat,i < n → ∀ w',Keeps (fun k=>k < w.heap.size) w w' → Gives prog F (.int .i64 i :: caps) w' fun v w''=>v = .int .i64 (x i) ∧ Ext w' w'') :
  Gives prog 233 [.int .i64 n,.func (.func F) #[] caps.toArray] w fun v' w'=>Ext w w' ∧ y6 S 227 .u32 w' v' tot:=by
 refine l7 func233 rfl rfl rfl ?_
 repeat (first | refine wW ?_ | refine E6 rfl rfl ?_)
 refine bf6 (l:=0) (c:=n + 1) rfl rfl rfl (by omega) (by omega) (by omega) (by unfold maxLen; omega) ?_
 intro w1 g k1 hb hg
 repeat (first | refine wW ?_ | refine d7 ?_)
 try refine o9 ?_
 refine H3 [(5,8),(12,44)] (fun k ρ w'=>∃ (i : Nat) (c : Int) (l : List Nat) (v : Value),ρ 7 = .int .i64 i ∧ ρ 6 = .int .i64 c ∧ ρ 5 = v ∧ l.length = i ∧ Digs l ∧ (y5 l : Int) + 1000000000 ^ i * c = am0 x (min i n) ∧
   d43 n k i c ∧ Ext w w' ∧ Own w.heap.size 227 1 w' v i (l.map fun d : Nat=>.int .u32 d)) ((n - 0) + 9223372036854775808)
  ⟨0,0,[],_,rfl,rfl,rfl,rfl,V0,by simp [y5,am0],?_,k1,c95 hb hg (by unfold maxLen; omega) (by simp [size_madeCells])⟩ ?_
 ·by_cases h : 0 < n
  ·exact ⟨by omega,by omega,.inl ⟨h,by omega⟩⟩
  exact ⟨by omega,by omega,.inr ⟨by omega,by omega,Int.pow_pos (by omega),by omega⟩⟩
 ·rintro k u w2 ⟨i,c,l,v,h7,h6,h5,hl,hd,hv,hcar,k2,ho⟩
  refine j9 7 h7 (j9 6 h6 (j9 5 h5 ?_))
  clear h7 h6 h5
  have hcb : -2100000000 ≤ c ∧ c ≤ 1000000000000000000 ∧ i ≤ n + 2:=by
   obtain ⟨h1,h2,h | ⟨h3,h4,h5,h6⟩⟩:=hcar
   ·omega
   omega
  subst hl
  refine wp_seq (ay3 [(12,18)] (fun ρ w'=>w' = w2 ∧ (l.length < n ∨ c ≠ 0)) ?_ ?_)
  ·repeat (first | refine wW ?_ | refine O6 rfl rfl ?_)
   refine G4 rfl rfl ?_ ?_ <;> intro hc
   ·repeat (first | refine wW ?_ | refine wp_skip ?_ | refine y7 rfl rfl rfl ?_ | refine s9 rfl ?_ | refine wp_cond_true rfl ?_)
    exact ⟨by (repeat (first | refine j2 rfl ?_ | exact i6 | refine j3 rfl ?_ | exact f5)),rfl,.inl (by omega)⟩
   ·repeat (first | refine wW ?_ | refine r4 rfl rfl ?_ | refine q8 rfl ?_ | refine by7 rfl rfl ?_)
    try refine i7 ?_
    refine j4 rfl ?_ ?_ <;> intro hc2
    ·repeat (first | refine N7 ?_ | refine wp_skip ?_)
     exact ⟨by (repeat (first | refine j2 rfl ?_ | exact i6 | refine j3 rfl ?_ | exact f5)),rfl,.inr hc2⟩
    repeat (first | refine wW ?_ | refine wp_exit ?_)
    refine j1 (bm3 (Row.of_own ho hS) hd) rfl ?_
    rintro v' w' ⟨rfl,hv'⟩
    repeat refine wW ?_
    refine q5 rfl ⟨k2,?_⟩
    obtain rfl : c = 0:=by omega
    rw [Nat.min_eq_right (by omega),ht] at hv
    have e : y5 l = tot:=by omega
    rw [← e]
    exact hv'
  ·rintro u2 w3 ⟨rfl,hgo⟩
   obtain ⟨xx,hxx⟩ : ∃ xx : Int,xx = if l.length < n then x l.length else 0:=⟨_,rfl⟩
   have hxb : -2000000000 ≤ xx ∧ xx ≤ 4300000000000000000:=by
    rw [hxx]
    split
    ·exact hx _ ‹_›
    omega
   repeat (first | refine wW ?_ | refine d7 ?_ | refine B4 ?_ | refine r6 ?_ | refine O6 rfl rfl ?_)
   first | refine i7 ?_ | refine I8 ?_ | refine F7 ?_ | skip
   refine S6 [(8,8),(25,29)] (fun ρ w'=>ρ 8 = .int .i64 (c + xx) ∧ Ext w3 w') rfl ?_ ?_ ?_
   ·intro hi
    repeat refine wW ?_
    refine dq0 (cap:=caps) (first:=[]) rfl (hF l.length (by omega) w3 (Keeps.mono k2 fun _ _=>trivial)) rfl ?_
    rintro v4 w4 ⟨rfl,k4⟩
    have e : x l.length = xx:=by rw [hxx,if_pos (by omega)]
    rw [e]
    repeat (first | refine wW ?_ | refine E6 rfl rfl ?_)
    exact ⟨by (repeat (first | refine j2 rfl ?_ | exact i6 | refine j3 rfl ?_ | exact f5)),rfl,k4⟩
   ·intro hi
    repeat (first | refine N7 ?_ | refine wp_skip ?_)
    exact ⟨by (repeat (first | refine j2 rfl ?_ | exact i6 | refine j3 rfl ?_ | exact f5)),congrArg (Value.int .i64) (by rw [hxx,if_neg (by omega)]; omega),.refl⟩
   ·rintro u4 w4 ⟨h8,k4⟩
    refine j9 8 h8 ?_
    clear h8
    have hc2 : c ≤ 4400000000:=hcar.2.1
    have hq:=dn3 (x:=c + xx) (by omega) (by omega)
    repeat (first | refine da2 (c:=(c + xx).tdiv 1000000000) rfl rfl (by omega) (wrap_i64 (by omega) (by omega)) ?_ | refine ds1 rfl rfl (by omega) ?_ | refine wW ?_ | refine d7 ?_ | refine O6 rfl rfl ?_)
    first | refine i7 ?_ | refine I8 ?_ | refine F7 ?_ | skip
    refine S6 [(6,6),(8,8),(36,39)] (fun ρ w'=>ρ 8 = .int .i64 ((c + xx) % 1000000000) ∧ ρ 6 = .int .i64 ((c + xx) / 1000000000) ∧ w' = w4) rfl ?_ ?_ ?_
    ·intro hneg
     have hf:=bo8 hneg
     repeat (first | refine wW ?_ | refine E6 rfl rfl ?_ | refine A3 rfl rfl ?_)
     exact ⟨by (repeat (first | refine j2 rfl ?_ | exact i6 | refine j3 rfl ?_ | exact f5)),congrArg (Value.int .i64) hf.1,congrArg (Value.int .i64) hf.2,rfl⟩
    ·intro hneg
     have hf:=bp1 hneg
     repeat (first | refine N7 ?_ | refine wp_skip ?_)
     exact ⟨by (repeat (first | refine j2 rfl ?_ | exact i6 | refine j3 rfl ?_ | exact f5)),congrArg (Value.int .i64) hf.1,congrArg (Value.int .i64) hf.2,rfl⟩
    ·rintro u5 w5 ⟨h8,h6,rfl⟩
     refine j9 8 h8 (j9 6 h6 ?_)
     clear h8 h6
     repeat (first | refine wW ?_ | refine Q5 rfl (ah5 (by omega) (by omega)) ?_)
     refine ab1 (by conv=>(lhs; whnf)) rfl ?_
     intro w6 g6 k6 hb6 hg6
     have hsz:=k2.size
     have hsz4:=k4.size
     have hsz6:=k6.size
     refine S7 (by conv=>(lhs; whnf)) (ab2 (ab2 ho k4) k6) rfl hb6 (by omega) rfl (by simp [Value.oneCell']) (by unfold maxLen; omega) (by omega) (by omega) ?_
     intro v7 w7 ho7 k7
     repeat (first | refine wW ?_ | refine E6 rfl rfl ?_)
     have hcar2:=cz9 hcar hxb (fun h=>by rw [hxx,if_neg (by omega)]) hgo (fun h=>dq2 (v:=0) hd (by rw [hv,Nat.min_eq_right h,ht]))
     obtain ⟨k',hk',hcar'⟩:=hcar2
     refine ⟨by (repeat (first | refine j2 rfl ?_ | exact i6 | refine j3 rfl ?_ | exact f5)),k',hk',l.length + 1,(c + xx) / 1000000000,l ++ [((c + xx) % 1000000000).toNat],v7,rfl,rfl,rfl,by simp,?_,?_,hcar',?_,?_⟩
     ·refine hd.append fun d hdm=>?_
      obtain rfl : d = _:=by simpa using hdm
      omega
     ·have hs:=cj9 (x:=xx) hv
      rw [Y3,y5,y5,Nat.mul_zero,Nat.add_zero,hs]
      by_cases hi : l.length < n
      ·rw [Nat.min_eq_left (by omega),Nat.min_eq_left (by omega),am0,hxx,if_pos hi]
      rw [Nat.min_eq_right (by omega),Nat.min_eq_right (by omega),hxx,if_neg hi]
      omega
     ·exact Keeps.later (k2.trans (k4.trans k6)) k7 fun i hi _ e=>by have:=(ho.lt i e.symm).1; omega
     have e : (((c + xx) % 1000000000).toNat : Int) = (c + xx) % 1000000000:=Int.toNat_of_nonneg (by omega)
     simpa [e] using ho7
theorem df9 {S : Nat → Prop} {w : World} {va : Value} {a : Nat} (i : Nat) (ha : y6 S 227 .u32 w va a) :
  Gives prog 232 [va,.int .i64 i] w fun v' w'=>v' = .int .i64 ((dg a).getD i 0 : Nat) ∧ Ext w w':=by
 have la:=ha.len_le
 unfold maxLen at la
 have hdl:=N1 a i
 refine l7 func232 rfl rfl rfl ?_
 repeat (first | refine wW ?_ | refine d7 ?_ | refine B5 (by conv=>(lhs; whnf)) (by assumption) ?_ | refine O6 rfl rfl ?_)
 try refine i7 ?_
 refine j4 rfl ?_ ?_ <;> intro hc
 ·repeat (first | refine B0 (by conv=>(lhs; whnf)) rfl rfl ha (by omega) ?_ | refine s6 rfl ha (by omega) ?_ | refine wW ?_ | refine r8 ?_ | refine Q5 rfl (wrap_i64 (by omega) (by omega)) ?_)
  exact q5 rfl ⟨rfl,.refl⟩
 repeat (first | refine wW ?_ | refine wp_skip ?_)
 refine q5 rfl ⟨congrArg (Value.int .i64) ?_,.refl⟩
 rw [List.getD_eq_getElem?_getD,List.getElem?_eq_none (by omega)]
 rfl
theorem bv5 {S : Nat → Prop} {w : World} {va : Value} {a : Nat} (ha : y6 S 227 .u32 w va a) :
  Gives prog 175 [va] w fun v' w'=>v' = .bool (tst (a = 1)) ∧ w' = w:=by
 have la:=ha.len_le
 unfold maxLen at la
 refine l7 func175 rfl rfl rfl ?_
 repeat (first | refine wW ?_ | refine B5 (by conv=>(lhs; whnf)) (by assumption) ?_ | refine ac6 rfl rfl ?_)
 refine G4 rfl rfl ?_ ?_ <;> intro hc
 ·repeat (first | refine B0 (i:=0) (by conv=>(lhs; whnf)) rfl rfl ha (by omega) ?_ | refine s6 rfl ha (by omega) ?_ | refine wW ?_ | refine r4 rfl rfl ?_ | refine s9 rfl ?_ | refine ac6 rfl rfl ?_)
  refine q5 rfl ⟨congrArg Value.bool ?_,rfl⟩
  have h1 : dg a = [(dg a).getD 0 0]:=by
   cases h : dg a with
   | nil=>rw [h] at hc; simp at hc
   | cons d r=>
    rw [h] at hc
    obtain rfl : r = []:=List.eq_nil_of_length_eq_zero (by simp at hc; omega)
    rfl
  have h2:=congrArg y5 h1
  rw [A0] at h2
  simp only [y5,Nat.mul_zero,Nat.add_zero] at h2
  by_cases e : a = 1
  ·rw [l9 e,l9 (by omega)]
  rw [j8 e,j8 (by omega)]
 repeat (first | refine wW ?_ | refine y7 rfl rfl rfl ?_ | refine q8 rfl ?_)
 refine q5 rfl ⟨congrArg Value.bool ?_,rfl⟩
 rw [j8]
 rintro rfl
 exact hc rfl
theorem c32 {S : Nat → Prop} {w : World} (hS : Up S w) :
  Gives prog 195 [] w fun v' w'=>Ext w w' ∧ y6 S 227 .u32 w' v' 1:=by
 refine l7 func195 rfl rfl rfl ?_
 repeat refine wW ?_
 refine ab1 (by conv=>(lhs; whnf)) rfl ?_
 intro w1 g k1 hb hg
 repeat refine wW ?_
 refine q5 rfl ⟨k1,?_⟩
 have:=Row.of_blk (s:=1) (n:=1) (cap:=1) hb (hS g hg) (Nat.le_refl _) (by unfold maxLen; omega) rfl
 exact this
theorem dk7 {S : Nat → Prop} {w : World} {va vb : Value} {a b ga gb : Nat} (i : Nat) (ha : y6 S 227 .u32 w va a) (hb : y6 S 227 .u32 w vb b)
  (hga : Blk w ga 49 [va]) (hgb : Blk w gb 49 [vb]) :
  Gives prog 236 [.int .i64 i,.pointer (some ⟨ga,0,none⟩),.pointer (some ⟨gb,0,none⟩)] w fun v' w'=>v' = .int .i64 (((dg a).getD i 0 : Nat) + ((dg b).getD i 0 : Nat)) ∧ Ext w w':=by
 have hda:=N1 a i
 have hdb:=N1 b i
 refine l7 func236 rfl rfl rfl ?_
 repeat refine wW ?_
 refine A6 7 ?_
 apply b7
 ·intro x w1 k1 hd
  refine i1 rfl (hga.to k1) rfl ?_
  refine d6 ?_
  exact j7
 apply b7
 ·intro x w1 k1 hd
  refine r7 ?_
  refine d6 ?_
  exact j7
 refine b7 (e:=.eq (.int .i64 ((dg a).getD i 0 : Nat))) ?_ ?_
 ·intro x w1 k1 hd
  refine j1 (df9 i (ha.to k1)) rfl ?_
  rintro v2 w2 ⟨rfl,k2⟩
  exact d6 ⟨rfl,k2,_,rfl,D9 _ _ _,fun h=>by cases h⟩
 apply b7
 ·intro x w1 k1 hd
  refine i1 rfl (hgb.to k1) rfl ?_
  refine d6 ?_
  exact j7
 apply b7
 ·intro x w1 k1 hd
  refine r7 ?_
  refine d6 ?_
  exact j7
 refine b7 (e:=.eq (.int .i64 ((dg b).getD i 0 : Nat))) ?_ ?_
 ·intro x w1 k1 hd
  refine j1 (df9 i (hb.to k1)) rfl ?_
  rintro v2 w2 ⟨rfl,k2⟩
  exact d6 ⟨rfl,k2,_,rfl,D9 _ _ _,fun h=>by cases h⟩
 apply b7
 ·intro x w1 k1 hd
  refine E6 rfl rfl ?_
  refine d6 ?_
  exact j7
 refine J1 (J5 ?_)
 intro x w3 k3 _
 repeat refine wW ?_
 exact q5 rfl ⟨rfl,k3⟩
theorem dl1 {S : Nat → Prop} {w : World} {va vb : Value} {a b ga gb : Nat} (i : Nat) (ha : y6 S 227 .u32 w va a) (hb : y6 S 227 .u32 w vb b)
  (hga : Blk w ga 49 [va]) (hgb : Blk w gb 49 [vb]) :
  Gives prog 235 [.int .i64 i,.pointer (some ⟨ga,0,none⟩),.pointer (some ⟨gb,0,none⟩)] w fun v' w'=>v' = .int .i64 (((dg a).getD i 0 : Nat) - ((dg b).getD i 0 : Nat)) ∧ Ext w w':=by
 have hda:=N1 a i
 have hdb:=N1 b i
 refine l7 func235 rfl rfl rfl ?_
 repeat refine wW ?_
 refine A6 7 ?_
 apply b7
 ·intro x w1 k1 hd
  refine i1 rfl (hga.to k1) rfl ?_
  refine d6 ?_
  exact j7
 apply b7
 ·intro x w1 k1 hd
  refine r7 ?_
  refine d6 ?_
  exact j7
 refine b7 (e:=.eq (.int .i64 ((dg a).getD i 0 : Nat))) ?_ ?_
 ·intro x w1 k1 hd
  refine j1 (df9 i (ha.to k1)) rfl ?_
  rintro v2 w2 ⟨rfl,k2⟩
  exact d6 ⟨rfl,k2,_,rfl,D9 _ _ _,fun h=>by cases h⟩
 apply b7
 ·intro x w1 k1 hd
  refine i1 rfl (hgb.to k1) rfl ?_
  refine d6 ?_
  exact j7
 apply b7
 ·intro x w1 k1 hd
  refine r7 ?_
  refine d6 ?_
  exact j7
 refine b7 (e:=.eq (.int .i64 ((dg b).getD i 0 : Nat))) ?_ ?_
 ·intro x w1 k1 hd
  refine j1 (df9 i (hb.to k1)) rfl ?_
  rintro v2 w2 ⟨rfl,k2⟩
  exact d6 ⟨rfl,k2,_,rfl,D9 _ _ _,fun h=>by cases h⟩
 apply b7
 ·intro x w1 k1 hd
  refine A3 rfl rfl ?_
  refine d6 ?_
  exact j7
 refine J1 (J5 ?_)
 intro x w3 k3 _
 repeat refine wW ?_
 exact q5 rfl ⟨rfl,k3⟩
theorem di1 {S : Nat → Prop} {w : World} {va : Value} {a c ga gc : Nat} (i : Nat) (hi : i < dl a) (ha : y6 S 227 .u32 w va a) (hc : c ≤ 4294967295)
  (hga : Blk w ga 49 [va]) (hgc : Blk w gc 227 [.int .u32 c]) :
  Gives prog 234 [.int .i64 i,.pointer (some ⟨ga,0,none⟩),.pointer (some ⟨gc,0,none⟩)] w fun v' w'=>v' = .int .i64 (((dg a).getD i 0 : Nat) * c) ∧ Ext w w':=by
 have hda:=N1 a i
 have hm : (((dg a).getD i 0 : Nat) : Int) * c ≤ 1000000000 * 4294967295:=Int.mul_le_mul (by omega) (by omega) (by omega) (by omega)
 have hm0 : 0 ≤ (((dg a).getD i 0 : Nat) : Int) * c:=Int.mul_nonneg (by omega) (by omega)
 refine l7 func234 rfl rfl rfl ?_
 repeat refine wW ?_
 refine A6 8 ?_
 apply b7
 ·intro x w1 k1 hd
  refine i1 rfl (hga.to k1) rfl ?_
  refine d6 ?_
  exact j7
 apply b7
 ·intro x w1 k1 hd
  refine r7 ?_
  refine d6 ?_
  exact j7
 apply b7
 ·intro x w1 k1 hd
  refine B0 (by conv=>(lhs; whnf)) rfl rfl (ha.to k1) hi ?_
  refine d6 ?_
  exact j7
 apply b7
 ·intro x w1 k1 hd
  refine s6 rfl (ha.to k1) hi ?_
  refine d6 ?_
  exact j7
 apply b7
 ·intro x w1 k1 hd
  refine Q5 rfl (wrap_i64 (by omega) (by omega)) ?_
  refine d6 ?_
  exact j7
 apply b7
 ·intro x w1 k1 hd
  refine i1 rfl (hgc.to k1) rfl ?_
  refine d6 ?_
  exact j7
 apply b7
 ·intro x w1 k1 hd
  refine Q5 rfl (wrap_i64 (by omega) (by omega)) ?_
  refine d6 ?_
  exact j7
 apply b7
 ·intro x w1 k1 hd
  refine bf8 rfl rfl (by omega) (by omega) ?_
  refine d6 ?_
  exact j7
 refine J1 (J5 ?_)
 intro x w3 k3 _
 repeat refine wW ?_
 exact q5 rfl ⟨rfl,k3⟩
theorem dz5 {S : Nat → Prop} {w : World} {va vb : Value} {a b : Nat} (hS : Up S w) (ha : y6 S 227 .u32 w va a) (hb : y6 S 227 .u32 w vb b) (hla : dl a ≤ 1099511627776) (hlb : dl b ≤ 1099511627776) :
  Gives prog 215 [va,vb] w fun v' w'=>Ext w w' ∧ y6 S 227 .u32 w' v' (a + b):=by
 refine l7 func215 rfl rfl rfl ?_
 repeat refine wW ?_
 refine a84 (by conv=>(lhs; whnf)) ha.one ?_
 intro w1 g1 k1 h1 hg1
 skip
 refine a84 (by conv=>(lhs; whnf)) hb.one ?_
 intro w2 g2 k2 h2 hg2
 replace h1:=h1.to k2
 have k:=k1.trans k2
 replace ha:=ha.to k
 replace hb:=hb.to k
 repeat (first | refine i1 rfl h1 rfl ?_ | refine i1 rfl h2 rfl ?_ | refine wW ?_ | refine B5 (by conv=>(lhs; whnf)) (by assumption) ?_ | refine dg6 rfl rfl ?_ | refine ar5 ?_)
 refine j1 (a97 (S:=S) (n:=max (dl a) (dl b)) (F:=236) (tot:=a + b) (caps:=[.pointer (some ⟨g1,0,none⟩),.pointer (some ⟨g2,0,none⟩)])
  (x:=fun i=>((dg a).getD i 0 : Nat) + ((dg b).getD i 0 : Nat)) (hS.to k) (by omega) (fun i _=>by have:=N1 a i; have:=N1 b i; omega) ?_ ?_) ?_ ?_
 ·rw [c58,a26 (Nat.le_max_left ..),a26 (Nat.le_max_right ..)]; rfl
 ·intro i hi w3 k3
  have kk : Keeps (fun i=>i < w2.heap.size) w2 w3:=k3
  exact dk7 (S:=fun i=>S i ∧ i < w2.heap.size) i ((ha.mono fun j hj hs=>⟨hs,hj⟩).keep (kk.mono fun j hj=>hj.2)) ((hb.mono fun j hj hs=>⟨hs,hj⟩).keep (kk.mono fun j hj=>hj.2)) (h1.keep kk h1.lt) (h2.keep kk h2.lt)
 ·exact cl9 (congrArg (Value.int .i64) (by unfold dl; omega)) rfl
 rintro v4 w4 ⟨k4,h4⟩
 repeat refine wW ?_
 exact q5 rfl ⟨k.trans k4,h4⟩
theorem bm1 {S : Nat → Prop} {w : World} {va vb : Value} {a b : Nat} (hS : Up S w) (ha : y6 S 227 .u32 w va a) (hb : y6 S 227 .u32 w vb b) (hla : dl a ≤ 1099511627776) (hba : b ≤ a) :
  Gives prog 214 [va,vb] w fun v' w'=>Ext w w' ∧ y6 S 227 .u32 w' v' (a - b):=by
 refine l7 func214 rfl rfl rfl ?_
 repeat refine wW ?_
 refine a84 (by conv=>(lhs; whnf)) ha.one ?_
 intro w1 g1 k1 h1 hg1
 skip
 refine a84 (by conv=>(lhs; whnf)) hb.one ?_
 intro w2 g2 k2 h2 hg2
 replace h1:=h1.to k2
 have k:=k1.trans k2
 replace ha:=ha.to k
 replace hb:=hb.to k
 repeat (first | refine i1 rfl h1 rfl ?_ | refine wW ?_ | refine B5 (by conv=>(lhs; whnf)) (by assumption) ?_ | refine ar5 ?_)
 refine j1 (a97 (S:=S) (n:=dl a) (F:=235) (tot:=a - b) (caps:=[.pointer (some ⟨g1,0,none⟩),.pointer (some ⟨g2,0,none⟩)])
  (x:=fun i=>((dg a).getD i 0 : Nat) - ((dg b).getD i 0 : Nat)) (hS.to k) (by omega) (fun i _=>by have:=N1 a i; have:=N1 b i; omega) ?_ ?_) rfl ?_
 ·rw [de0,a26 (Nat.le_refl _),a26 (J4 hba)]; omega
 ·intro i hi w3 k3
  have kk : Keeps (fun i=>i < w2.heap.size) w2 w3:=k3
  exact dl1 (S:=fun i=>S i ∧ i < w2.heap.size) i ((ha.mono fun j hj hs=>⟨hs,hj⟩).keep (kk.mono fun j hj=>hj.2)) ((hb.mono fun j hj hs=>⟨hs,hj⟩).keep (kk.mono fun j hj=>hj.2)) (h1.keep kk h1.lt) (h2.keep kk h2.lt)
 rintro v4 w4 ⟨k4,h4⟩
 repeat refine wW ?_
 exact q5 rfl ⟨k.trans k4,h4⟩
theorem dp4 {S : Nat → Prop} {w : World} {va : Value} {a c : Nat} (hS : Up S w) (ha : y6 S 227 .u32 w va a) (hla : dl a ≤ 1099511627776) (hc : c ≤ 4294967295) :
  Gives prog 213 [va,.int .u32 c] w fun v' w'=>Ext w w' ∧ y6 S 227 .u32 w' v' (a * c):=by
 refine l7 func213 rfl rfl rfl ?_
 repeat refine wW ?_
 refine a84 (by conv=>(lhs; whnf)) ha.one ?_
 intro w1 g1 k1 h1 hg1
 skip
 refine a84 (by conv=>(lhs; whnf)) rfl ?_
 intro w2 g2 k2 h2 hg2
 replace h1:=h1.to k2
 have k:=k1.trans k2
 replace ha:=ha.to k
 repeat (first | refine i1 rfl h1 rfl ?_ | refine wW ?_ | refine B5 (by conv=>(lhs; whnf)) (by assumption) ?_ | refine ar5 ?_)
 refine j1 (a97 (S:=S) (n:=dl a) (F:=234) (tot:=a * c) (caps:=[.pointer (some ⟨g1,0,none⟩),.pointer (some ⟨g2,0,none⟩)])
  (x:=fun i=>((dg a).getD i 0 : Nat) * (c : Int)) (hS.to k) (by omega) (fun i _=>?_) ?_ ?_) rfl ?_
 ·have hda:=N1 a i
  have hm : (((dg a).getD i 0 : Nat) : Int) * c ≤ 1000000000 * 4294967295:=Int.mul_le_mul (by omega) (by omega) (by omega) (by omega)
  have hm0 : 0 ≤ (((dg a).getD i 0 : Nat) : Int) * c:=Int.mul_nonneg (by omega) (by omega)
  omega
 ·rw [c56,a26 (Nat.le_refl _),Int.natCast_mul]
 ·intro i hi w3 k3
  have kk : Keeps (fun i=>i < w2.heap.size) w2 w3:=k3
  exact di1 (S:=fun i=>S i ∧ i < w2.heap.size) i hi ((ha.mono fun j hj hs=>⟨hs,hj⟩).keep (kk.mono fun j hj=>hj.2)) hc (h1.keep kk h1.lt) (h2.keep kk h2.lt)
 rintro v4 w4 ⟨k4,h4⟩
 repeat refine wW ?_
 exact q5 rfl ⟨k.trans k4,h4⟩
theorem cx1 {S : Nat → Prop} {w : World} {va : Value} {a c : Nat} (hS : Up S w) (ha : y6 S 227 .u32 w va a) (hla : dl a ≤ 1099511627776) (hc : c < 1000000000) :
  Gives prog 211 [va,.int .u32 c] w fun v' w'=>Ext w w' ∧ y6 S 227 .u32 w' v' (c + 1000000000 * a):=by
 refine l7 func211 rfl rfl rfl ?_
 repeat refine wW ?_
 refine ab1 (by conv=>(lhs; whnf)) rfl ?_
 intro w1 g1 k1 h1 hg1
 replace ha:=ha.to k1
 have hla' : (dg a).length ≤ 1099511627776:=hla
 repeat (first | refine r7 ?_)
 refine a42 (by conv=>(lhs; whnf)) (at9 h1 hg1 (by unfold maxLen; omega) rfl) (by conv=>(lhs; whnf)) ha (by omega) b75 (by unfold maxLen; omega) (by omega) k1.size ?_
 intro v2 w2 ho k2
 skip
 have hd : Digs (c :: dg a):=(a65 a).cons hc
 refine j1 (bm3 (S:=S) (v:=v2) (l:=c :: dg a) ?_ hd) rfl ?_
 ·have h4:=Row.of_own ho hS
  rw [Nat.add_comm] at h4
  exact h4
 rintro v3 w3 ⟨rfl,h3⟩
 repeat refine wW ?_
 refine q5 rfl ⟨?_,?_⟩
 ·exact Keeps.later k1 k2 fun i hi _ e=>by simp [Value.ownBlock] at e; omega
 simpa [y5,A0] using h3
theorem ao9 {S : Nat → Prop} {w : World} {va vb : Value} {a b : Nat} (hS : Up S w) (ha : y6 S 227 .u32 w va a) (hb : y6 S 227 .u32 w vb b) (hla : dl a ≤ 1099511627776) (hlb : dl b ≤ 1099511627776) :
  Gives prog 166 [va,vb] w fun v' w'=>Ext w w' ∧ y6 S 227 .u32 w' v' (a * b):=by
 have hla' : (dg a).length ≤ 1099511627776:=hla
 have hlb' : (dg b).length ≤ 1099511627776:=hlb
 refine l7 func166 rfl rfl rfl ?_
 repeat (first | refine wW ?_ | refine B5 (by conv=>(lhs; whnf)) (by assumption) ?_ | refine E6 rfl rfl ?_)
 refine bf6 (l:=(dg a).length + (dg b).length) (c:=(dg a).length + (dg b).length) rfl rfl (by omega) (by omega) (Nat.le_refl _) (by omega) (by unfold maxLen; omega) ?_
 intro w1 g k1 hg hgs
 have hg : Blk w1 g 227 ((List.replicate ((dg a).length + (dg b).length) 0).map fun d : Nat=>.int .u32 d):=by
  simpa [toList_madeCells_one,Value.cells,List.map_replicate] using hg
 have ha0:=ha.mono (S':=fun k=>S k ∧ k < w.heap.size) fun i hi hs=>⟨hs,hi⟩
 have hb0:=hb.mono (S':=fun k=>S k ∧ k < w.heap.size) fun i hi hs=>⟨hs,hi⟩
 repeat (first | refine wW ?_ | refine d7 ?_ | refine B5 (by conv=>(lhs; whnf)) (by assumption) ?_)
 try refine o9 ?_
 refine H3 [(6,11),(20,66)] (fun k ρ w'=>∃ (i : Nat) (o : List Nat),k + i = (dg a).length ∧ ρ 20 = .int .i64 i ∧ o.length = (dg a).length + (dg b).length ∧ Digs o ∧ y5 o = y5 ((dg a).take i) * b ∧ (∀ j,i + (dg b).length ≤ j → o.getD j 0 = 0) ∧
   Blk w' g 227 (o.map fun d : Nat=>.int .u32 d) ∧ Keeps (fun k=>k < w.heap.size) w w') (dg a).length
  ⟨0,List.replicate ((dg a).length + (dg b).length) 0,by omega,rfl,by simp,fun x hx=>by rw [List.eq_of_mem_replicate hx]; omega,by rw [bi5]; simp [y5],fun j _=>by simp [List.getD_eq_getElem?_getD,List.getElem?_replicate]; split <;> rfl,hg,k1.mono fun _ _=>trivial⟩ ?_
 rintro k u w2 ⟨i,o,hki,h20,hol,hod,hv,hz,hg2,k2⟩
 refine j9 20 h20 ?_
 clear h20 hg
 have ha2 : y6 (fun k=>S k ∧ k < w.heap.size) 227 .u32 w2 va a:=ha0.keep (k2.mono fun i hi=>hi.2)
 have hb2 : y6 (fun k=>S k ∧ k < w.heap.size) 227 .u32 w2 vb b:=hb0.keep (k2.mono fun i hi=>hi.2)
 have hda:=N1 a i
 repeat (first | refine wW ?_ | refine O6 rfl rfl ?_)
 try refine i7 ?_
 refine j4 rfl ?_ ?_ <;> intro hc
 ·repeat (first | refine B0 (by conv=>(lhs; whnf)) rfl rfl ha2 (by omega) ?_ | refine s6 rfl ha2 (by omega) ?_ | refine wW ?_ | refine d7 ?_ | refine B4 ?_ | refine r6 ?_ | refine wp_skip ?_ | refine B5 (by conv=>(lhs; whnf)) (by assumption) ?_)
  obtain ⟨x,hx⟩ : ∃ x,x = (dg a).getD i 0:=⟨_,rfl⟩
  rw [← hx] at hda ⊢
  first | refine o9 ?_ | refine I8 ?_ | refine F7 ?_ | skip
  refine ay3 [(8,11),(27,57)] (fun ρ w'=>∃ (o' : List Nat) (c : Nat),ρ 8 = .int .u64 c ∧ c < 1000000000 ∧ o'.length = o.length ∧ Digs o' ∧ y5 o' + 1000000000 ^ (i + (dg b).length) * c = y5 o + 1000000000 ^ i * (x * b) ∧
    (∀ j,i + (dg b).length ≤ j → o'.getD j 0 = 0) ∧ Blk w' g 227 (o'.map fun d : Nat=>.int .u32 d) ∧ Keeps (fun k=>k < w.heap.size) w w') ?_ ?_
  ·try refine o9 ?_
   refine H3 [(8,11),(27,57)] (fun k ρ w'=>∃ (j : Nat) (o' : List Nat) (c : Nat),k + j = (dg b).length ∧ ρ 27 = .int .i64 j ∧ ρ 8 = .int .u64 c ∧ c < 1000000000 ∧ o'.length = o.length ∧ Digs o' ∧ y5 o' + 1000000000 ^ (i + j) * c = y5 o + 1000000000 ^ i * (x * y5 ((dg b).take j)) ∧
    (∀ j,i + (dg b).length ≤ j → o'.getD j 0 = 0) ∧ Blk w' g 227 (o'.map fun d : Nat=>.int .u32 d) ∧ Keeps (fun k=>k < w.heap.size) w w') (dg b).length
    ⟨0,o,0,by omega,rfl,rfl,by omega,rfl,hod,by simp [y5],hz,hg2,k2⟩ ?_
   rintro k' u3 w3 ⟨j,o',c,hkj,h27,h8,hcb,hol',hod',hv',hz',hg3,k3⟩
   refine j9 27 h27 (j9 8 h8 ?_)
   clear h27 h8
   have hb3 : y6 (fun k=>S k ∧ k < w.heap.size) 227 .u32 w3 vb b:=hb0.keep (k3.mono fun i hi=>hi.2)
   have hdb:=N1 b j
   repeat (first | refine wW ?_ | refine O6 rfl rfl ?_)
   try refine i7 ?_
   refine j4 rfl ?_ ?_ <;> intro hcj
   ·have hm : ((x : Nat) : Int) * ((dg b).getD j 0 : Nat) ≤ 999999999 * 999999999:=Int.mul_le_mul (by omega) (by omega) (by omega) (by omega)
    have hm0 : 0 ≤ ((x : Nat) : Int) * ((dg b).getD j 0 : Nat):=Int.mul_nonneg (by omega) (by omega)
    have hdo:=hod'.getD (i + j)
    repeat (first | refine B0 (by conv=>(lhs; whnf)) rfl rfl hb3 (by omega) ?_ | refine s6 rfl hb3 (by omega) ?_ | refine dz1 rfl rfl (by omega) (by omega) ?_ | refine L8 (i:=i + j) rfl rfl (by omega) (by omega) ?_ | refine bc1 rfl hg3 (by omega) ?_ | refine dv1 rfl rfl (by omega) (by omega) ?_ | refine wW ?_ | refine B4 ?_ | refine r6 ?_ | refine wp_skip ?_ | refine E6 rfl rfl ?_ | refine Q5 rfl (as9 (by omega) (by omega)) ?_ | refine Q5 rfl (ah5 (by omega) (by omega)) ?_ | refine as2 rfl rfl (by omega) (by omega) ?_)
    refine Z4 (c:=(x * (dg b).getD j 0 + o'.getD (i + j) 0 + c) % 1000000000) rfl rfl (by rw [← Int.natCast_mul]; omega) hg3 (by omega) ?_
    intro w4 k4 hg4
    repeat (first | refine wW ?_ | refine E6 rfl rfl ?_ | refine cj6 rfl rfl (by omega) (by omega) (by omega) ?_)
    have hms:=dc3 (m:=x * (dg b).getD j 0) (show i + j < o'.length by omega) hv'
    have hmn : ((x * (dg b).getD j 0 : Nat) : Int) = x * ((dg b).getD j 0 : Nat):=Int.natCast_mul _ _
    refine ⟨by (repeat (first | refine j2 rfl ?_ | exact i6 | refine j3 rfl ?_ | exact f5)),k' - 1,by omega,j + 1,o'.set (i + j) ((x * (dg b).getD j 0 + o'.getD (i + j) 0 + c) % 1000000000),(x * (dg b).getD j 0 + o'.getD (i + j) 0 + c) / 1000000000,by omega,rfl,
     congrArg (Value.int .u64) (by omega),by omega,by simpa using hol',hod'.set (by omega) _,?_,fun q hq=>?_,hg4,k3.trans (k4.mono fun q hq=>by omega)⟩
    ·rw [← Nat.add_assoc,hms,ag7 (by omega)]
     rw [Nat.mul_add,Nat.mul_add,Nat.add_assoc]
     congr 2
     rw [Nat.pow_add,Nat.mul_assoc]
     congr 1
     rw [← Nat.mul_assoc,← Nat.mul_assoc,Nat.mul_comm x]
    rw [Z5 (by omega)]
    exact hz' q hq
   repeat (first | refine N7 ?_ | refine wp_exit ?_ | refine ac8 ?_ | refine Y1 rfl ?_)
   obtain rfl : j = (dg b).length:=by omega
   rw [List.take_of_length_le (Nat.le_refl _),A0] at hv'
   exact ⟨by (repeat (first | refine j2 rfl ?_ | exact i6 | refine j3 rfl ?_ | exact f5)),o',c,rfl,hcb,hol',hod',hv',hz',hg3,k3⟩
  ·rintro u3 w3 ⟨o',c,h8,hcb,hol',hod',hv',hz',hg3,k3⟩
   refine j9 8 h8 ?_
   clear h8
   repeat (first | refine L8 (i:=i + (dg b).length) rfl rfl (by omega) (by omega) ?_ | refine wW ?_ | refine B5 (by conv=>(lhs; whnf)) (by assumption) ?_ | refine E6 rfl rfl ?_ | refine Q5 rfl (ah5 (by omega) (by omega)) ?_)
   refine Z4 (c:=c) rfl rfl rfl hg3 (by omega) ?_
   intro w4 k4 hg4
   repeat (first | refine wW ?_ | refine E6 rfl rfl ?_)
   have hns:=b27 o' c (show i + (dg b).length < o'.length by omega)
   rw [hz' _ (Nat.le_refl _),Nat.mul_zero] at hns
   refine ⟨by (repeat (first | refine j2 rfl ?_ | exact i6 | refine j3 rfl ?_ | exact f5)),k - 1,by omega,i + 1,o'.set (i + (dg b).length) c,by omega,rfl,by simp; omega,hod'.set hcb _,?_,fun q hq=>?_,hg4,k3.trans (k4.mono fun q hq=>by omega)⟩
   ·rw [ag7 (by omega),Nat.add_mul,← hv,← hx,Nat.mul_assoc]
    omega
   rw [Z5 (by omega)]
   exact hz' q (by omega)
 repeat (first | refine wW ?_ | refine wp_exit ?_)
 obtain rfl : i = (dg a).length:=by omega
 rw [List.take_of_length_le (Nat.le_refl _),A0] at hv
 refine j1 (bm3 (S:=S) (v:=.slice (some ⟨g,0,none⟩) ((dg a).length + (dg b).length) ((dg a).length + (dg b).length)) (l:=o) ?_ hod) rfl ?_
 ·have h4:=Row.of_blk (S:=S) (s:=1) (n:=o.length) (cap:=o.length) hg2 (hS g hgs) (Nat.le_refl _) (by unfold maxLen; omega) (by simp)
  rw [Nat.mul_one,List.take_of_length_le (by simp)] at h4
  rw [← hol]
  exact h4
 rintro v3 w3 ⟨rfl,h3⟩
 repeat refine wW ?_
 refine q5 rfl ⟨?_,?_⟩
 ·exact Keeps.later .refl k2 fun i hi _=>hi
 rw [← hv]; exact h3
theorem c15 {S : Nat → Prop} {w : World} {va : Value} {a n : Nat} (ha : y6 S 227 .u32 w va a) (hn : n ≤ 1099511627777) :
  Gives prog 212 [va,.int .i64 n] w fun v' w'=>(∃ r,v' = .float .f64 r) ∧ Ext w w':=by
 refine l7 func212 rfl rfl rfl ?_
 repeat (first | refine wW ?_ | refine d7 ?_ | refine A3 rfl rfl ?_)
 try refine o9 ?_
 refine H3 [(5,6),(9,24)] (fun k ρ w'=>∃ (i : Int) (r : Nat),k = (i + 4 - n).toNat ∧ ρ 6 = .int .i64 i ∧ ρ 5 = .float .f64 r ∧ (n : Int) - 4 ≤ i ∧ i ≤ n - 1 ∧ Ext w w') 3 ⟨(n : Int) - 1,0,by omega,rfl,rfl,by omega,by omega,.refl⟩ ?_
 rintro k u w2 ⟨i,r,hk,h6,h5,hi1,hi2,k2⟩
 refine j9 6 h6 (j9 5 h5 ?_)
 clear h6 h5
 repeat (first | refine wW ?_ | refine d7 ?_ | refine aj0 rfl rfl ?_ | refine A3 rfl rfl ?_)
 try refine i7 ?_
 refine j4 rfl ?_ ?_ <;> intro hc
 ·repeat (first | refine wW ?_ | refine B4 ?_ | refine r6 ?_ | refine wp_skip ?_)
  refine bs2 rfl rfl (by simp) ?_
  intro r1 w3 k3
  repeat (first | refine wW ?_ | refine aj0 rfl rfl ?_)
  first | refine i7 ?_ | refine I8 ?_ | refine F7 ?_ | skip
  refine S6 [(5,5),(19,24)] (fun ρ w'=>∃ r2 : Nat,ρ 5 = .float .f64 r2 ∧ Ext w w') rfl ?_ ?_ ?_
  ·intro hi0
   obtain ⟨m,rfl⟩:=Int.eq_ofNat_of_zero_le hi0
   repeat refine wW ?_
   refine j1 (df9 m (ha.to (k2.trans k3))) rfl ?_
   rintro v4 w4 ⟨rfl,k4⟩
   repeat (first | refine cr0 rfl ?_)
   intro r2
   refine bs2 rfl rfl (by simp) ?_
   intro r3 w5 k5
   repeat refine wW ?_
   exact ⟨by (repeat (first | refine j2 rfl ?_ | exact i6 | refine j3 rfl ?_ | exact f5)),r3,rfl,((k2.trans k3).trans k4).trans k5⟩
  ·intro hi0
   repeat (first | refine N7 ?_ | refine wp_skip ?_)
   exact ⟨by (repeat (first | refine j2 rfl ?_ | exact i6 | refine j3 rfl ?_ | exact f5)),r1,rfl,k2.trans k3⟩
  rintro u4 w4 ⟨r2,h5,k4⟩
  refine j9 5 h5 ?_
  clear h5
  repeat (first | refine wW ?_ | refine A3 rfl rfl ?_)
  exact ⟨by (repeat (first | refine j2 rfl ?_ | exact i6 | refine j3 rfl ?_ | exact f5)),k - 1,by omega,i - 1,r2,by omega,rfl,rfl,by omega,by omega,k4⟩
 repeat (first | refine wW ?_ | refine wp_exit ?_)
 exact q5 rfl ⟨⟨r,rfl⟩,k2⟩
theorem bq0 {r b d : Nat} (h : r < b) (hd : d < 1000000000) : dl (d + 1000000000 * r) ≤ dl b + 1:=by
 refine M7 ?_
 rw [Nat.pow_succ]
 have:=F8 b
 omega
theorem c33 {b g : Nat} (hg : g ≤ 4294967295) : dl (b * g) ≤ dl b + 2:=by
 refine M7 ?_
 rw [Nat.pow_add]
 have:=F8 b
 exact Nat.mul_lt_mul_of_lt_of_le this (by omega) (by omega)
theorem S8 {l : List Nat} {m : Nat} (h : m < l.length) : y5 (l.drop m) = l.getD m 0 + 1000000000 * y5 (l.drop (m + 1)):=by
 rw [List.drop_eq_getElem_cons h,y5,List.getD_eq_getElem?_getD,List.getElem?_eq_getElem h]
 rfl
theorem ar0 {l : List Nat} {m d : Nat} : (l.set m d).drop (m + 1) = l.drop (m + 1):=by
 rw [List.drop_set_of_lt (by omega)]
theorem ch7 {S : Nat → Prop} {w : World} {va vb : Value} {a b : Nat} (hS : Up S w) (ha : y6 S 227 .u32 w va a) (hb : y6 S 227 .u32 w vb b) (hla : dl a ≤ 1099511627000) (hlb : dl b ≤ 1099511627000) (hb0 : 0 < b) :
  Gives prog 193 [va,vb] w fun v' w'=>∃ vq vr,v' = .tuple #[vq,vr] ∧ Ext w w' ∧ y6 S 227 .u32 w' vq (a / b) ∧ y6 S 227 .u32 w' vr (a % b):=by
 have hla' : (dg a).length ≤ 1099511627000:=hla
 have hlb' : (dg b).length ≤ 1099511627000:=hlb
 refine l7 func193 rfl rfl rfl ?_
 repeat (first | refine wW ?_ | refine d7 ?_)
 refine j1 (af2 ha hb) rfl ?_
 rintro v1 w1 ⟨k1,c,rfl,hc⟩
 repeat (first | refine wW ?_ | refine O6 rfl rfl ?_)
 try refine i7 ?_
 refine j4 rfl ?_ ?_ <;> intro hcl
 ·repeat (first | refine wW ?_ | refine r8 ?_)
  have hab : a < b:=hc.1.1 hcl
  refine as7 rfl (by conv=>(lhs; whnf)) (by conv=>(lhs; whnf)) ⟨_,_,rfl,k1,?_,?_⟩
  ·rw [Nat.div_eq_of_lt hab]; exact Row.nil
  rw [Nat.mod_eq_of_lt hab]; exact ha.to k1
 ·repeat (first | refine wW ?_ | refine wp_skip ?_ | refine B5 (by conv=>(lhs; whnf)) (by assumption) ?_)
  refine bf6 (l := (dg a).length) (c := (dg a).length) rfl rfl rfl rfl (Nat.le_refl _) (by omega) (by unfold maxLen; omega) ?_
  intro w2 q k2 hg hgs
  have hg : Blk w2 q 227 ((List.replicate (dg a).length 0).map fun d : Nat=>.int .u32 d):=by
   simpa [toList_madeCells_one,Value.cells,List.map_replicate] using hg
  have k12 := k1.trans k2
  have hq := hg.lt
  have hs1:=k1.size
  have hs12 := k12.size
  have hS2 : Up (fun k=>S k ∧ k ≠ q) w2:=fun i hi=>⟨hS i (by omega),by omega⟩
  have ha2:=(ha.mono (S':=fun k=>S k ∧ k ≠ q) fun i hi hs=>⟨hs,by omega⟩).to k12
  have hb2:=(hb.mono (S':=fun k=>S k ∧ k ≠ q) fun i hi hs=>⟨hs,by omega⟩).to k12
  repeat (first | refine wW ?_ | refine d7 ?_ | refine B5 (by conv => (lhs; whnf)) (by assumption) ?_ | refine A3 rfl rfl ?_)
  try refine o9 ?_
  refine H3 [(7,10),(22,77)] (fun k ρ w'=>∃ (o : List Nat) (r : Nat) (vr : Value),ρ 8 = .int .i64 ((k : Int) - 1) ∧ ρ 7 = vr ∧ r < b ∧ k ≤ o.length ∧ o.length = (dg a).length ∧ Digs o ∧ (∀ j,j < k → o.getD j 0 = 0) ∧
    y5 ((dg a).drop k) = y5 (o.drop k) * b + r ∧ Blk w' q 227 (o.map fun d : Nat=>.int .u32 d) ∧ y6 (fun k=>S k ∧ k ≠ q) 227 .u32 w' vr r ∧ Keeps (fun k=>k ≠ q) w2 w') (dg a).length
   ⟨List.replicate (dg a).length 0,0,_,rfl,rfl,hb0,by simp,by simp,fun x hx=>by rw [List.eq_of_mem_replicate hx]; omega,fun j _=>by simp [List.getD_eq_getElem?_getD,List.getElem?_replicate]; split <;> rfl,by simp [y5],hg,Row.nil,.refl⟩ ?_
  rintro k u w3 ⟨o,r,vr,h8,h7,hr,hko,hol,hod,hz,hv,hg3,hvr,k3⟩
  refine j9 8 h8 (j9 7 h7 ?_)
  clear h8 h7 hg
  have hb3 : y6 (fun k=>S k ∧ k ≠ q) 227 .u32 w3 vb b:=hb2.keep (k3.mono fun i hi=>hi.2)
  have ha3 : y6 (fun k=>S k ∧ k ≠ q) 227 .u32 w3 va a:=ha2.keep (k3.mono fun i hi=>hi.2)
  have hS3 : Up (fun k=>S k ∧ k ≠ q) w3:=fun i hi=>hS2 i (by have:=k3.size; omega)
  repeat (first | refine wW ?_ | refine d7 ?_ | refine aj0 rfl rfl ?_)
  try refine i7 ?_
  refine j4 rfl ?_ ?_ <;> intro hk
  ·obtain ⟨m,rfl⟩ : ∃ m,k = m + 1:=⟨k - 1,by omega⟩
   repeat (first | refine B0 (i:=m) (by conv=>(lhs; whnf)) rfl (by omega) ha3 (by omega) ?_ | refine s6 rfl ha3 (by omega) ?_ | refine wW ?_ | refine B4 ?_ | refine r6 ?_ | refine wp_skip ?_)
   have hda:=N1 a m
   have hdr:=S8 (show m < (dg a).length by omega)
   rw [hv] at hdr
   obtain ⟨d,hd⟩ : ∃ d,d = (dg a).getD m 0:=⟨_,rfl⟩
   rw [← hd] at hda hdr ⊢
   have hdo:=S8 (show m < o.length by omega)
   have hdl:=bq0 hr hda
   have hrb:=J4 (Nat.le_of_lt hr)
   refine j1 (cx1 hS3 hvr (by omega) hda) rfl ?_
   rintro v4 w4 ⟨k4,h4⟩
   repeat (first | refine wW ?_ | refine d7 ?_)
   refine j1 (af2 h4 (hb3.to k4)) rfl ?_
   rintro v5 w5 ⟨k5,c5,rfl,hc5⟩
   replace h4:=h4.to k5
   replace k4:=k4.trans k5
   repeat (first | refine wW ?_ | refine O6 rfl rfl ?_)
   try refine i7 ?_
   refine j4 rfl ?_ ?_ <;> intro hlt
   ·repeat (first | refine wW ?_ | refine wp_exit ?_ | refine A3 rfl rfl ?_)
    refine ⟨by (repeat (first | refine j2 rfl ?_ | exact i6 | refine j3 rfl ?_ | exact f5)),m,by omega,o,d + 1000000000 * r,v4,congrArg (Value.int .i64) (by omega),rfl,hc5.1.1 hlt,by omega,hol,hod,fun j hj=>hz j (by omega),?_,hg3.to k4,h4,k3.trans (.of k4)⟩
    rw [hdr,hdo,hz m (by omega),Nat.zero_add,Nat.mul_add,Nat.mul_assoc]
    omega
   ·have hge : b ≤ d + 1000000000 * r:=by have:=hc5.1; omega
    have hlt9 : d + 1000000000 * r < 1000000000 * b:=by omega
    obtain ⟨y,hy⟩ : ∃ y,y = d + 1000000000 * r:=⟨_,rfl⟩
    rw [← hy] at hge hlt9 h4 hdl
    repeat (first | refine wW ?_ | refine wp_skip ?_ | refine B5 (by conv=>(lhs; whnf)) (by assumption) ?_ | refine E6 rfl rfl ?_)
    refine j1 (c15 (n:=(dg b).length + 1) h4 (by omega)) (cl9 rfl (congrArg (Value.int .i64) (by omega))) ?_
    rintro v6 w6 ⟨⟨f6,rfl⟩,k6⟩
    repeat (first | refine r7 ?_ | refine B5 (by conv=>(lhs; whnf)) (by assumption) ?_ | refine E6 rfl rfl ?_)
    refine j1 (c15 (n:=(dg b).length + 1) (hb3.to (k4.trans k6)) (by omega)) (cl9 rfl (congrArg (Value.int .i64) (by omega))) ?_
    rintro v7 w7 ⟨⟨f7,rfl⟩,k7⟩
    skip
    refine bs2 rfl rfl (by simp) ?_
    intro f8 w8 k8
    skip
    refine d32 rfl rfl ?_
    intro f9 w9 k9
    skip
    refine du1 rfl rfl ?_
    intro f10 w10 k10
    skip
    refine dk2 rfl ?_
    intro g w11 hg11 k11
    repeat refine wW ?_
    have k4b:=(((((k4.trans k6).trans k7).trans k8).trans k9).trans k10).trans k11
    replace h4:=h4.to (((((k6.trans k7).trans k8).trans k9).trans k10).trans k11)
    refine j1 (dp4 (c:=g) (hS3.to k4b) (hb3.to k4b) (by omega) hg11) rfl ?_
    rintro v12 w12 ⟨k12b,h12⟩
    replace h4:=h4.to k12b
    replace k4b:=k4b.trans k12b
    repeat refine wW ?_
    try refine o9 ?_
    refine H3 [(9,10),(53,61)] (fun k ρ w'=>∃ vp : Value,ρ 9 = .int .u32 k ∧ ρ 10 = vp ∧ k ≤ 4294967295 ∧ y6 (fun k=>S k ∧ k ≠ q) 227 .u32 w' vp (b * k) ∧ Ext w12 w') g
     ⟨v12,rfl,rfl,hg11,h12,.refl⟩ ?_
    rintro g2 u2 w13 ⟨vp,h9,h10,hg2,hp,k13⟩
    refine j9 9 h9 (j9 10 h10 ?_)
    clear h9 h10 h12
    have h4b:=h4.to k13
    repeat (first | refine wW ?_ | refine d7 ?_)
    refine j1 (af2 hp h4b) rfl ?_
    rintro v14 w14 ⟨k14,c14,rfl,hc14⟩
    repeat (first | refine wW ?_ | refine Z3 rfl rfl ?_)
    try refine i7 ?_
    refine j4 rfl ?_ ?_ <;> intro hgt
    ·have hgt2:=hc14.2.1 hgt
     obtain ⟨g3,rfl⟩ : ∃ g3,g2 = g3 + 1:=by
      have h0 : g2 ≠ 0:=by
       rintro rfl
       omega
      exact ⟨g2 - 1,by omega⟩
     repeat (first | refine dx1 rfl rfl (by omega) (by omega) ?_ | refine wW ?_ | refine r6 ?_ | refine wp_skip ?_)
     have hbl : b ≤ b * (g3 + 1):=Nat.le_mul_of_pos_right _ (by omega)
     have hdm:=c33 (b:=b) hg2
     refine j1 (bm1 ((hS3.to k4b).to (k13.trans k14)) (hp.to k14) (hb3.to (k4b.trans (k13.trans k14))) (by omega) hbl) rfl ?_
     rintro v15 w15 ⟨k15,h15⟩
     repeat (first | refine wW ?_ | refine ae6 ?_)
     refine ⟨by (repeat (first | refine j2 rfl ?_ | exact i6 | refine j3 rfl ?_ | exact f5)),g3,by omega,v15,congrArg (Value.int .u32) (by omega),rfl,by omega,?_,(k13.trans k14).trans k15⟩
     have e : b * (g3 + 1) - b = b * g3:=by rw [Nat.mul_succ]; omega
     rw [← e]; exact h15
    ·have hle : b * g2 ≤ y:=by have:=hc14.2; omega
     repeat (first | refine wW ?_ | refine wp_exit ?_)
     refine j1 (bm1 ((hS3.to k4b).to (k13.trans k14)) (h4b.to k14) (hp.to k14) (by omega) hle) rfl ?_
     rintro v15 w15 ⟨k15,h15⟩
     have k4c:=((k4b.trans k13).trans k14).trans k15
     repeat refine wW ?_
     try refine o9 ?_
     refine H3 [(7,7),(9,9),(65,73)] (fun k ρ w'=>∃ (g : Nat) (vp : Value),ρ 9 = .int .u32 g ∧ ρ 7 = vp ∧ y = b * g + k ∧ y6 (fun k=>S k ∧ k ≠ q) 227 .u32 w' vp k ∧ Ext w15 w') (y - b * g2)
      ⟨g2,v15,rfl,rfl,by omega,h15,.refl⟩ ?_
     rintro r3 u3 w16 ⟨g4,vp4,h9,h7,hyr,hr3,k16⟩
     refine j9 9 h9 (j9 7 h7 ?_)
     clear h9 h7 h15
     have k4d:=k4c.trans k16
     have hr3d : dl r3 ≤ dl b + 1:=Nat.le_trans (J4 (by omega)) hdl
     repeat (first | refine wW ?_ | refine d7 ?_)
     refine j1 (af2 hr3 (hb3.to k4d)) rfl ?_
     rintro v17 w17 ⟨k17,c17,rfl,hc17⟩
     have hg9 : b * g4 < b * 1000000000:=by omega
     replace hg9:=Nat.lt_of_mul_lt_mul_left hg9
     repeat (first | refine wW ?_ | refine aj0 rfl rfl ?_)
     try refine i7 ?_
     refine j4 rfl ?_ ?_ <;> intro hge2
     ·have hge3 : b ≤ r3:=by have:=hc17.1; omega
      repeat (first | refine dw2 rfl rfl (by omega) (by omega) ?_ | refine wW ?_ | refine r6 ?_ | refine wp_skip ?_)
      refine j1 (bm1 ((hS3.to k4d).to k17) (hr3.to k17) (hb3.to (k4d.trans k17)) (by omega) hge3) rfl ?_
      rintro v18 w18 ⟨k18,h18⟩
      repeat (first | refine wW ?_ | refine ae6 ?_)
      refine ⟨by (repeat (first | refine j2 rfl ?_ | exact i6 | refine j3 rfl ?_ | exact f5)),r3 - b,by omega,g4 + 1,v18,rfl,rfl,by rw [Nat.mul_succ]; omega,h18,(k16.trans k17).trans k18⟩
     ·have hlt3 : r3 < b:=by have:=hc17.1; omega
      replace k4d:=k4d.trans k17
      repeat (first | refine L8 (i:=m) rfl rfl (by omega) (by omega) ?_ | refine wW ?_ | refine wp_exit ?_)
      refine Z4 (c:=g4) rfl rfl rfl (hg3.to k4d) (by omega) ?_
      intro w19 k19 hg19
      repeat (first | refine wW ?_ | refine A3 rfl rfl ?_)
      refine ⟨by (repeat (first | refine j2 rfl ?_ | exact i6 | refine j3 rfl ?_ | exact f5)),m,by omega,o.set m g4,r3,vp4,congrArg (Value.int .i64) (by omega),rfl,hlt3,by rw [List.length_set]; omega,by rw [List.length_set]; omega,hod.set hg9 _,fun j hj=>by rw [Z5 (by omega)]; exact hz j (by omega),?_,hg19,(hr3.to k17).keep (k19.mono fun i hi=>hi.2),(k3.trans (.of k4d)).trans k19⟩
      have hds:=S8 (l:=o.set m g4) (m:=m) (by rw [List.length_set]; omega)
      rw [ab7 (by omega), ar0] at hds
      rw [hdr,hds,Nat.mul_add,Nat.add_mul,Nat.mul_assoc,Nat.mul_comm g4]
      omega
  ·obtain rfl : k = 0:=by omega
   rw [List.drop_zero,List.drop_zero,A0] at hv
   repeat (first | refine wW ?_ | refine wp_exit ?_)
   refine j1 (bm3 (S:=S) (v:=.slice (some ⟨q,0,none⟩) (dg a).length (dg a).length) (l:=o) ?_ hod) rfl ?_
   ·have h4:=Row.of_blk (S:=S) (s:=1) (n:=o.length) (cap:=o.length) hg3 (hS q (by omega)) (Nat.le_refl _) (by unfold maxLen; omega) (by simp)
    rw [Nat.mul_one,List.take_of_length_le (by simp)] at h4
    rw [← hol]
    exact h4
   ·rintro v4 w4 ⟨rfl,h4⟩
    have hdiv : a / b = y5 o:=by
     rw [hv,Nat.add_comm,Nat.add_mul_div_right _ _ hb0,Nat.div_eq_of_lt hr,Nat.zero_add]
    have hmod : a % b = r:=by
     rw [hv,Nat.mul_comm,Nat.mul_add_mod,Nat.mod_eq_of_lt hr]
    repeat refine wW ?_
    refine as7 rfl (by conv=>(lhs; whnf)) (by conv=>(lhs; whnf)) ⟨_,_,rfl,?_,?_,?_⟩
    ·exact Keeps.later k12 k3 fun i hi _=>by omega
    ·rw [hdiv]; exact h4
    rw [hmod]; exact hvr.mono fun i _ hi=>hi.1
theorem dt1 {S : Nat → Prop} {w : World} {va vb : Value} {a b : Nat} (hS : Up S w) (ha : y6 S 227 .u32 w va a) (hb : y6 S 227 .u32 w vb b) (hla : dl a ≤ 1099511627000) (hlb : dl b ≤ 1099511627000) :
  Gives prog 174 [va,vb] w fun v' w'=>Ext w w' ∧ y6 S 227 .u32 w' v' (Nat.gcd a b):=by
 refine l7 func174 rfl rfl rfl ?_
 repeat refine wW ?_
 try refine o9 ?_
 refine H3 [(0,1),(5,17)] (fun k ρ w'=>∃ (x : Nat) (vx vy : Value),ρ 0 = vx ∧ ρ 1 = vy ∧ y6 S 227 .u32 w' vx x ∧ y6 S 227 .u32 w' vy k ∧ Nat.gcd x k = Nat.gcd a b ∧ dl x ≤ 1099511627000 ∧ dl k ≤ 1099511627000 ∧ Ext w w') b
  ⟨a,va,vb,rfl,rfl,ha,hb,rfl,hla,hlb,.refl⟩ ?_
 rintro y u w2 ⟨x,vx,vy,h0,h1,hx,hy,hg,hlx,hly,k2⟩
 refine j9 0 h0 (j9 1 h1 ?_)
 clear h0 h1
 repeat (first | refine wW ?_ | refine d7 ?_ | refine B5 (by conv=>(lhs; whnf)) (by assumption) ?_ | refine Z3 rfl rfl ?_)
 try refine i7 ?_
 refine j4 rfl ?_ ?_ <;> intro hc
 ·have hy0 : 0 < y:=by
   rcases Nat.eq_zero_or_pos y with rfl | h
   ·rw [ai0] at hc; simp at hc
   exact h
  repeat (first | refine wW ?_ | refine r6 ?_ | refine wp_skip ?_)
  refine j1 (ch7 (hS.to k2) hx hy hlx hly hy0) rfl ?_
  rintro v3 w3 ⟨vq,vr,rfl,k3,hq,hr⟩
  have hml:=J4 (Nat.le_of_lt (Nat.mod_lt x hy0))
  repeat (first | refine wW ?_ | refine ae6 ?_ | refine D6 rfl rfl ?_)
  refine ⟨by (repeat (first | refine j2 rfl ?_ | exact i6 | refine j3 rfl ?_ | exact f5)),x % y,Nat.mod_lt x hy0,y,vy,vr,rfl,rfl,hy.to k3,hr,?_,hly,by omega,k2.trans k3⟩
  rw [Nat.gcd_comm,← Nat.gcd_rec,Nat.gcd_comm,hg]
 obtain rfl : y = 0:=K6.1 (by unfold dl; omega)
 rw [Nat.gcd_zero_right] at hg
 rw [← hg]
 repeat (first | refine wW ?_ | refine wp_exit ?_)
 exact q5 rfl ⟨k2,hx⟩
@[irreducible] def Big : Nat:=2 ^ 100000
theorem bu0 : Big = 2 ^ 100000:=by unfold Big; rfl
theorem be6 : 1000000000 ^ 3344 ≤ Big:=by
 unfold Big
 exact Nat.le_of_ble_eq_true (by kernel_rfl)
theorem b91 : Big < 1000000000 ^ 3345:=by
 unfold Big
 exact Nat.le_of_ble_eq_true (by kernel_rfl)
@[irreducible] def bg8 (p s k : Nat) : Prop:=∃ e,e = 100000 ∧ p * s ^ k = 2 ^ e
theorem cy0 (k : Nat) : ∃ e,e = k ∧ 1 * 2 ^ k = 2 ^ e:=⟨k,rfl,Nat.one_mul _⟩
theorem b55 : bg8 1 2 100000:=by unfold bg8; exact cy0 100000
theorem d07 {p s k : Nat} (h : bg8 p s k) : p * s ^ k = Big:=by
 unfold bg8 at h
 obtain ⟨e,rfl,h⟩:=h
 exact h.trans bu0.symm
theorem c71 {p s k : Nat} (h : p * s ^ k = Big) : bg8 p s k:=by
 unfold bg8
 exact ⟨100000,rfl,h.trans bu0⟩
theorem d22 {x : Nat} (h : 1000000000 ^ x ≤ Big) : 0 < Big:=Nat.lt_of_lt_of_le (Nat.pow_pos (by decide)) h
theorem dq7 : 0 < Big:=@d22 3344 be6
theorem ao4 {i j : Nat} (h : i ≤ j) : 1000000000 ^ i ≤ 1000000000 ^ j:=Nat.pow_le_pow_right (by decide) h
theorem db6 (p s k : Nat) : p * s ^ k = (if k % 2 = 1 then p * s else p) * (s * s) ^ (k / 2):=by
 conv=>lhs; rw [← Nat.div_add_mod k 2,Nat.pow_add,Nat.pow_mul]
 split
 ·rename_i h; rw [h,Nat.pow_one,Nat.pow_two,Nat.mul_comm ((s * s) ^ (k / 2)) s,← Nat.mul_assoc]
 rename_i h
 have h : k % 2 = 0:=by omega
 rw [h,Nat.pow_zero,Nat.mul_one,Nat.pow_two]
theorem cy3 {S : Nat → Prop} {w : World} {va : Value} {a : Nat} (hS : Up S w) (ha : y6 S 227 .u32 w va a) :
  Gives prog 196 [va] w fun v' w'=>v' = .bool (tst (a < Big)) ∧ Ext w w':=by
 refine l7 func196 rfl rfl rfl ?_
 repeat (first | refine wW ?_ | refine d7 ?_ | refine B5 (by conv=>(lhs; whnf)) (by assumption) ?_ | refine by7 rfl rfl ?_)
 try refine i7 ?_
 refine j4 rfl ?_ ?_ <;> intro hc
 ·repeat (first | refine wW ?_ | refine r8 ?_ | refine B5 (by conv=>(lhs; whnf)) (by assumption) ?_ | refine O6 rfl rfl ?_)
  refine q5 rfl ⟨congrArg Value.bool ?_,.refl⟩
  by_cases h : (dg a).length < 3345
  ·have h2 : dl a ≤ 3344:=by unfold dl; omega
   have h4 : a < Big:=Nat.lt_of_lt_of_le (F8 a) (Nat.le_trans (ao4 h2) be6)
   rw [l9 (by omega),l9 h4]
  have h1:=W8 (af9 a) (by rintro h0; rw [h0] at h; exact h (by decide))
  rw [A0] at h1
  have h2 : 3345 ≤ (dg a).length - 1:=by omega
  have h4 : ¬ a < Big:=Nat.not_lt.2 (Nat.le_of_lt (Nat.lt_of_lt_of_le b91 (Nat.le_trans (@ao4 3345 ((dg a).length - 1) h2) h1)))
  rw [j8 (by omega),j8 h4]
 ·repeat (first | refine wW ?_ | refine wp_skip ?_)
  refine j1 (c32 (S:=S) hS) rfl ?_
  rintro v1 w1 ⟨k1,h1⟩
  skip
  refine ab1 (by conv=>(lhs; whnf)) rfl ?_
  intro w2 g k2 hb hg
  have h2 : y6 S 227 .u32 w2 (.slice (some ⟨g,0,none⟩) 1 1) 2:=Row.of_blk (s:=1) (n:=1) (cap:=1) hb (hS g (by have:=k1.size; omega)) (Nat.le_refl _) (by unfold maxLen; omega) rfl
  repeat (first | refine wW ?_ | refine d7 ?_)
  have hbd : dl Big ≤ 3345:=M7 b91
  try refine o9 ?_
  refine H3 [(4,6),(17,29)] (fun k ρ w'=>∃ (p s : Nat) (vp vs : Value),ρ 6 = .int .i64 k ∧ ρ 4 = vp ∧ ρ 5 = vs ∧ k ≤ 100000 ∧ bg8 p s k ∧ 0 < s ∧ y6 S 227 .u32 w' vp p ∧ y6 S 227 .u32 w' vs s ∧ Ext w w') 100000 ?_ ?_
  ·exact ⟨1,2,v1,.slice (some ⟨g,0,none⟩) 1 1,rfl,rfl,rfl,Nat.le_refl _,b55,by decide,h1.to k2,h2,k1.trans k2⟩
  rintro k u w3 ⟨p,s,vp,vs,h6,h4,h5,hk,he,hs0,hp,hs,k3⟩
  refine j9 6 h6 (j9 4 h4 (j9 5 h5 ?_))
  clear h6 h4 h5 h1 h2
  replace he:=d07 he
  have hB0:=dq7
  have hpB : p ≤ Big:=by rw [← he]; exact Nat.le_mul_of_pos_right _ (Nat.pow_pos hs0)
  have hpl:=J4 hpB
  repeat (first | refine wW ?_ | refine d7 ?_ | refine Z3 rfl rfl ?_)
  try refine i7 ?_
  refine j4 rfl ?_ ?_ <;> intro hk0
  ·have hsB : s ≤ Big:=by
    have h1 : 0 < p:=by
     rcases Nat.eq_zero_or_pos p with rfl | h
     ·rw [Nat.zero_mul] at he; omega
     exact h
    rw [← he]
    exact Nat.le_trans (Nat.le_self_pow (by omega) s) (Nat.le_mul_of_pos_left _ h1)
   have hsl:=J4 hsB
   have hh:=db6 p s k
   rw [he] at hh
   repeat (first | refine wW ?_ | refine d7 ?_ | refine B4 ?_ | refine r6 ?_ | refine wp_skip ?_ | refine ac6 rfl rfl ?_ | refine as2 rfl rfl (by omega) (by omega) ?_)
   first | refine i7 ?_ | refine I8 ?_ | refine F7 ?_ | skip
   refine S6 [(4,4),(24,26)] (fun ρ w'=>∃ vp',ρ 4 = vp' ∧ y6 S 227 .u32 w' vp' (if k % 2 = 1 then p * s else p) ∧ Ext w3 w') rfl ?_ ?_ ?_
   ·intro h2
    repeat refine wW ?_
    refine j1 (ao9 (hS.to k3) hp hs (by omega) (by omega)) rfl ?_
    rintro v4 w4 ⟨k4,h4⟩
    repeat refine wW ?_
    exact ⟨by (repeat (first | refine j2 rfl ?_ | exact i6 | refine j3 rfl ?_ | exact f5)),v4,rfl,by rw [if_pos (by omega)]; exact h4,k4⟩
   ·intro h2
    repeat (first | refine N7 ?_ | refine wp_skip ?_)
    exact ⟨by (repeat (first | refine j2 rfl ?_ | exact i6 | refine j3 rfl ?_ | exact f5)),vp,rfl,by rw [if_neg (by omega)]; exact hp,.refl⟩
   ·rintro u4 w4 ⟨vp',h4,hp',k4⟩
    refine j9 4 h4 ?_
    clear h4
    repeat refine wW ?_
    refine j1 (ao9 (hS.to (k3.trans k4)) (hs.to k4) (hs.to k4) (by omega) (by omega)) rfl ?_
    rintro v5 w5 ⟨k5,h5⟩
    repeat (first | refine wW ?_ | refine as0 rfl rfl (by omega) (by omega) (by omega) ?_)
    exact ⟨by (repeat (first | refine j2 rfl ?_ | exact i6 | refine j3 rfl ?_ | exact f5)),k / 2,by omega,_,_,vp',v5,congrArg (Value.int .i64) (by omega),rfl,rfl,by omega,c71 hh.symm,Nat.mul_pos hs0 hs0,hp'.to k5,h5,(k3.trans k4).trans k5⟩
  obtain rfl : k = 0:=by omega
  obtain rfl : p = Big:=by rw [← he,Nat.pow_zero,Nat.mul_one]
  repeat (first | refine wW ?_ | refine wp_exit ?_)
  refine j1 (af2 (ha.to k3) hp) rfl ?_
  rintro v4 w4 ⟨k4,c,rfl,hc4⟩
  repeat (first | refine wW ?_ | refine O6 rfl rfl ?_)
  refine q5 rfl ⟨congrArg Value.bool ?_,k3.trans k4⟩
  by_cases h : a < Big
  ·rw [l9 h,l9 (hc4.1.2 h)]
  rw [j8 h,j8 fun h'=>h (hc4.1.1 h')]
theorem S2 {p q : Prop} (h : p ↔ q) : tst p = tst q:=by rw [propext h]
def IntV (S : Nat → Prop) (T : TypeId) (k : IntKind) (w : World) (v : Value) (z : Int) : Prop:=∃ m,v = .agg #[.bool (tst (z < 0)),m] ∧ y6 S T k w m z.natAbs
theorem IntV.keep {S : Nat → Prop} {T : TypeId} {kd : IntKind} {w w' : World} {v : Value} {z : Int} (h : IntV S T kd w v z) (k : Keeps S w w') : IntV S T kd w' v z:=let ⟨m,h1,h2⟩:=h; ⟨m,h1,h2.keep k⟩
theorem IntV.to {S : Nat → Prop} {T : TypeId} {kd : IntKind} {w w' : World} {v : Value} {z : Int} (h : IntV S T kd w v z) (k : Ext w w') : IntV S T kd w' v z:=let ⟨m,h1,h2⟩:=h; ⟨m,h1,h2.to k⟩
theorem IntV.mono {S S' : Nat → Prop} {T : TypeId} {kd : IntKind} {w : World} {v : Value} {z : Int} (h : IntV S T kd w v z) (hs : ∀ k,k < w.heap.size → S k → S' k) : IntV S' T kd w v z:=let ⟨m,h1,h2⟩:=h; ⟨m,h1,h2.mono hs⟩
theorem ds3 {a b : Value} (h1 : a.oneCell' = true) (h2 : b.oneCell' = true) : ∀ v ∈ [a,b],v.oneCell' = true:=fun v hv=>by
 simp only [List.mem_cons,List.not_mem_nil,or_false] at hv
 rcases hv with rfl | rfl <;> assumption
theorem Row.past {S : Nat → Prop} {T : TypeId} {s : Nat} {w w1 w2 : World} {v : Value} {n g : Nat} {cs : List Value} (h : Row S T s w v n cs) (k1 : Ext w w1) (k2 : Wrt g w1 w2) (hg : w.heap.size ≤ g) : Row S T s w2 v n cs:=
 (((h.mono (S':=fun k=>S k ∧ k ≠ g) fun i hi hs=>⟨hs,by omega⟩).to k1).keep (k2.mono fun i hi=>hi.2)).mono fun i _ hi=>hi.1
theorem Ext.past {w w1 w2 : World} {g : Nat} (k1 : Ext w w1) (k2 : Wrt g w1 w2) (hg : w.heap.size ≤ g) : Ext w w2:=Keeps.later k1 k2 fun i hi _=>by omega
theorem Keeps.past {w w1 w2 : World} {g : Nat} (k1 : Keeps All w w1) (k2 : Wrt g w1 w2) (hg : w.heap.size ≤ g) : Ext w w2:=Ext.past k1 k2 hg
theorem d58 {a b z0 z1 : Value} (h1 : a.oneCell' = true) (h2 : b.oneCell' = true) :
  Instr.fill (fun i : Nat=>([(0,1),(1,1)][i]? : Option (Nat × Nat))) [z0,z1].toArray [(0,a),(1,b)] = some [a,b].toArray:=
 bh9 rfl h1 (by simp) (bh9 rfl h2 (by simp) aq2)
theorem al5 {P : Program} {n : Nat} {Q : G3} {ρ : Fr} {w : World} {all rest : List Oper} {d : Tmp} {ty : TypeId} {pos : String} {aft : Array Edge} {T : TypeId} {bb : Nat} {z0 z1 : Value} [ti : TyI P T 2 bb (.agg #[z0,z1]) true] [st : StcT P T [(0,1),(1,1)]]
  {x y : Operand} {a b : Value} (hx : ev ρ x = a) (hy : ev ρ y = b) (h1 : a.oneCell' = true) (h2 : b.oneCell' = true)
  (h : WpR P n all Q rest (upd ρ d (.agg #[a,b])) w) : WpR P n all Q (⟨some d,.build T #[(0,x),(1,y)],ty,pos,aft,none⟩ :: rest) ρ w:=
 a15 (parts:=[(0,x),(1,y)]) (zs:=[z0,z1]) (cs:=[a,b]) (vs:=[(0,a),(1,b)]) rfl (by rw [← hx,← hy]; rfl) (d58 h1 h2) h
theorem D1 {P : Program} {n : Nat} {Q : G3} {ρ : Fr} {w : World} {all rest : List Oper} {ty : TypeId} {pos : String} {aft : Array Edge} {t : TypeId} {bb : Nat} {z : Value} {agg : Bool} [ti : TyI P t 2 bb z agg] {x y : Operand} {g : Nat} {T : TypeId} {a b c d : Value}
  (hx : ev ρ x = .pointer (some ⟨g,0,none⟩)) (hy : ev ρ y = .agg #[a,b]) (hb : Blk w g T [c,d]) (h1 : a.oneCell' = true) (h2 : b.oneCell' = true)
  (h : ∀ w',Wrt g w w' → Blk w' g T [a,b] → WpR P n all Q rest ρ w') : WpR P n all Q (⟨none,.store t x y,ty,pos,aft,none⟩ :: rest) ρ w:=
 A5 (us:=[a,b]) hx hy rfl rfl hb rfl (ds3 h1 h2) h
theorem Z7 {S : Nat → Prop} {w : World} {vm : Value} {n : Nat} {p : Prop} (z : Int) (hm : y6 S 227 .u32 w vm n) (ha : z.natAbs = n) (hp : z < 0 ↔ p ∧ 0 < n) :
  Gives prog 165 [.bool (tst p),vm] w fun v' w'=>Ext w w' ∧ IntV S 227 .u32 w' v' z:=by
 subst ha
 refine l7 func165 rfl rfl rfl ?_
 repeat refine wW ?_
 refine r5 (cs:=[.bool false,.slice none 0 0]) rfl ?_
 intro w1 g k1 hg hgs
 have hm0:=hm
 replace hm:=hm.to k1
 have hdl : 0 < (dg z.natAbs).length ↔ 0 < z.natAbs:=by
  have:=@K6 z.natAbs
  unfold dl at this
  omega
 repeat refine wW ?_
 refine G4 rfl rfl ?_ ?_ <;> intro hc
 ·repeat (first | refine r7 ?_ | refine B5 (by conv=>(lhs; whnf)) (by assumption) ?_ | refine r4 rfl rfl ?_ | refine s9 rfl ?_ | refine Z3 rfl rfl ?_)
  refine al5 (by conv=>(lhs; whnf)) (by conv=>(lhs; whnf)) rfl hm.one ?_
  refine D1 rfl (by conv=>(lhs; whnf)) hg rfl hm.one ?_
  intro w2 k2 hg2
  repeat refine wW ?_
  refine Y0 rfl (o7 hg2 rfl) ⟨?_,vm,?_,?_⟩
  ·exact k1.past k2 hgs
  ·rw [S2 (show (0 : Int) < ((dg z.natAbs).length : Nat) ↔ z < 0 by rw [hp,← hdl]; exact ⟨fun h=>⟨hc,by omega⟩,fun h=>by omega⟩)]
  exact hm0.past k1 k2 hgs
 repeat (first | refine r7 ?_ | refine y7 rfl rfl rfl ?_ | refine q8 rfl ?_)
 refine al5 (by conv=>(lhs; whnf)) (by conv=>(lhs; whnf)) rfl hm.one ?_
 refine D1 rfl (by conv=>(lhs; whnf)) hg rfl hm.one ?_
 intro w2 k2 hg2
 repeat refine wW ?_
 refine Y0 rfl (o7 hg2 rfl) ⟨?_,vm,?_,?_⟩
 ·exact k1.past k2 hgs
 ·rw [j8 (show ¬ z < 0 from fun h=>hc (hp.1 h).1)]
 exact hm0.past k1 k2 hgs
theorem bx5 {n : Nat} : (0 : Int) < ((dg n).length : Nat) ↔ 0 < n:=by
 have:=@K6 n
 unfold dl at this
 omega
theorem cf5 {S : Nat → Prop} {w : World} {v : Value} {z : Int} (h : IntV S 227 .u32 w v z) :
  Gives prog 131 [v] w fun v' w'=>v' = .int .i64 z.sign ∧ Ext w w':=by
 obtain ⟨m,rfl,hm⟩:=h
 refine l7 func131 rfl rfl rfl ?_
 repeat refine wW ?_
 refine z8 (cs:=[.bool (tst (z < 0)),m]) rfl ?_
 intro w1 g k1 hg hgs
 replace hm:=hm.to k1
 repeat (first | refine i1 rfl hg rfl ?_ | refine wW ?_ | refine B4 ?_ | refine r6 ?_ | refine l6 rfl ?_)
 try refine i7 ?_
 refine j4 rfl ?_ ?_ <;> intro hc
 ·repeat (first | refine wW ?_ | refine r8 ?_ | refine N6 ?_)
  exact X5 rfl (by conv=>(lhs; whnf)) ⟨congrArg (Value.int .i64) (by rw [Int.sign_eq_neg_one_of_neg hc]),k1⟩
 ·repeat (first | refine i1 rfl hg rfl ?_ | refine wW ?_ | refine B5 (by conv=>(lhs; whnf)) (by assumption) ?_ | refine Z3 rfl rfl ?_ | refine l6 rfl ?_)
  try refine i7 ?_
  refine j4 rfl ?_ ?_ <;> intro hc2
  ·repeat (first | refine wW ?_ | refine r8 ?_ | refine N6 ?_)
   exact X5 rfl (by conv=>(lhs; whnf)) ⟨congrArg (Value.int .i64) (by rw [bx5] at hc2; rw [Int.sign_eq_one_of_pos (by omega)]),k1⟩
  repeat (first | refine wW ?_ | refine wp_skip ?_)
  exact X5 rfl (by conv=>(lhs; whnf)) ⟨congrArg (Value.int .i64) (by rw [bx5] at hc2; rw [show z = 0 by omega]; rfl),k1⟩
theorem c22 {S : Nat → Prop} {w : World} {v : Value} {z : Int} (h : IntV S 227 .u32 w v z) :
  Gives prog 126 [v] w fun v' w'=>Ext w w' ∧ IntV S 227 .u32 w' v' (-z):=by
 obtain ⟨m,rfl,hm⟩:=h
 refine l7 func126 rfl rfl rfl ?_
 repeat refine wW ?_
 refine z8 (cs:=[.bool (tst (z < 0)),m]) rfl ?_
 intro w1 g k1 hg hgs
 skip
 refine r5 (cs:=[.bool false,.slice none 0 0]) rfl ?_
 intro w2 g2 k2 hg2 hgs2
 replace hg:=hg.to k2
 have k:=k1.trans k2
 have hm2:=hm.to k
 repeat (first | refine i1 rfl hg rfl ?_ | refine wW ?_ | refine ba2 rfl ?_ | refine l6 rfl ?_)
 refine j1 (Z7 (-z) hm2 (by omega) (by omega)) rfl ?_
 rintro v3 w3 ⟨k3,m3,rfl,h3⟩
 replace hg2:=hg2.to k3
 have hs:=k1.size
 skip
 refine D1 rfl (by conv=>(lhs; whnf)) hg2 rfl h3.one ?_
 intro w4 k4 hg4
 repeat refine wW ?_
 refine Y0 rfl (o7 hg4 rfl) ⟨(k.trans k3).past k4 (by omega),m3,rfl,h3.wrT k4 hg2 (by decide)⟩
def ar8 (S : Nat → Prop) (T : TypeId) (k : IntKind) (n : Nat) : Ent:=Ent.of (fun v w=>y6 S T k w v n) fun v w w' h kk=>h.to kk
def am8 (S : Nat → Prop) (T : TypeId) (k : IntKind) (z : Int) : Ent:=Ent.of (fun v w=>IntV S T k w v z) fun v w w' h kk=>h.to kk
theorem a31 {a b : Int} (h : ¬ (a < 0 ↔ b < 0)) (hab : b.natAbs ≤ a.natAbs) : a + b < 0 ↔ a < 0 ∧ 0 < a.natAbs - b.natAbs:=by
 by_cases h1 : a < 0 <;> by_cases h2 : b < 0
 ·exact absurd ⟨fun _=>h2,fun _=>h1⟩ h
 ·omega
 ·omega
 exact absurd ⟨fun x=>by omega,fun x=>by omega⟩ h
theorem be1 {a b : Int} (h : ¬ (a < 0 ↔ b < 0)) (hab : b.natAbs ≤ a.natAbs) : (a + b).natAbs = a.natAbs - b.natAbs:=by
 by_cases h1 : a < 0 <;> by_cases h2 : b < 0
 ·exact absurd ⟨fun _=>h2,fun _=>h1⟩ h
 ·omega
 ·omega
 exact absurd ⟨fun x=>by omega,fun x=>by omega⟩ h
theorem ck9 {S : Nat → Prop} {w : World} {va vb : Value} {a b : Int} (hS : Up S w) (ha : IntV S 227 .u32 w va a) (hb : IntV S 227 .u32 w vb b) (hla : dl a.natAbs ≤ 1099511627000) (hlb : dl b.natAbs ≤ 1099511627000) :
  Gives prog 197 [va,vb] w fun v' w'=>Ext w w' ∧ IntV S 227 .u32 w' v' (a + b):=by
 obtain ⟨ma,rfl,ha⟩:=ha
 obtain ⟨mb,rfl,hb⟩:=hb
 refine l7 func197 rfl rfl rfl ?_
 repeat refine wW ?_
 refine z8 (cs:=[.bool (tst (a < 0)),ma]) rfl ?_
 intro w1 ga k1 hga hgsa
 skip
 refine z8 (cs:=[.bool (tst (b < 0)),mb]) rfl ?_
 intro w2 gb k2 hgb hgsb
 skip
 refine r5 (cs:=[.bool false,.slice none 0 0]) rfl ?_
 intro w3 g k3 hg hgs
 replace hga:=hga.to (k2.trans k3)
 replace hgb:=hgb.to k3
 have k:=(k1.trans k2).trans k3
 have hs:=(k1.trans k2).size
 replace ha:=ha.to k
 replace hb:=hb.to k
 repeat (first | refine i1 rfl hga rfl ?_ | refine i1 rfl hgb rfl ?_ | refine wW ?_ | refine d7 ?_ | refine l6 rfl ?_)
 refine j1 (af2 ha hb) rfl ?_
 rintro v4 w4 ⟨k4,c,rfl,hc⟩
 replace hga:=hga.to k4
 replace hgb:=hgb.to k4
 replace k:=k.trans k4
 replace ha:=ha.to k4
 replace hb:=hb.to k4
 replace hg:=hg.to k4
 replace hS:=hS.to k
 clear k1 k2 k3 k4
 repeat (first | refine i1 rfl hga rfl ?_ | refine i1 rfl hgb rfl ?_ | refine wW ?_ | refine r6 ?_ | refine c59 rfl rfl ?_ | refine l6 rfl ?_)
 try refine i7 ?_
 refine j4 rfl ?_ ?_ <;> intro he
 ·repeat (first | refine D3 ?_)
  refine A6 8 ?_
  apply b7
  ·intro x w1 k1 hd
   refine l6 rfl ?_
   refine d6 ?_
   exact j7
  apply b7
  ·intro x w1 k1 hd
   refine i1 rfl (hga.to k1) rfl ?_
   refine d6 ?_
   exact j7
  apply b7
  ·intro x w1 k1 hd
   refine l6 rfl ?_
   refine d6 ?_
   exact j7
  apply b7
  ·intro x w1 k1 hd
   refine i1 rfl (hga.to k1) rfl ?_
   refine d6 ?_
   exact j7
  apply b7
  ·intro x w1 k1 hd
   refine l6 rfl ?_
   refine d6 ?_
   exact j7
  apply b7
  ·intro x w1 k1 hd
   refine i1 rfl (hgb.to k1) rfl ?_
   refine d6 ?_
   exact j7
  refine b7 (e:=ar8 S 227 .u32 (a.natAbs + b.natAbs)) ?_ ?_
  ·intro x w1 k1 hd
   refine j1 (dz5 (hS.to k1) (ha.to k1) (hb.to k1) (by omega) (by omega)) rfl ?_
   rintro v2 w2 ⟨k2,h2⟩
   exact d6 (D7 k2 h2)
  refine b7 (e:=am8 S 227 .u32 (a + b)) ?_ ?_
  ·intro x w1 k1 hd
   refine j1 (Z7 (a + b) hd.1 (by omega) (by omega)) rfl ?_
   rintro v2 w2 ⟨k2,h2⟩
   exact d6 (D7 k2 h2)
  refine J1 (J5 ?_)
  intro x w5 k5 hall
  obtain ⟨m5,hv5,h5⟩:=hall.1
  refine D1 rfl hv5 (hg.to k5) rfl h5.one ?_
  intro w6 k6 hg6
  repeat (first | refine wW ?_ | refine r8 ?_ | refine N6 ?_)
  refine Y0 rfl (o7 hg6 rfl) ⟨Keeps.past (k.trans k5) k6 (by omega),m5,rfl,h5.wrT k6 (hg.to k5) (by decide)⟩
 ·repeat (first | refine wW ?_ | refine aj0 rfl rfl ?_)
  try refine i7 ?_
  refine j4 rfl ?_ ?_ <;> intro hcc
  ·have hge : b.natAbs ≤ a.natAbs:=by have:=hc.1; omega
   repeat (first | refine D3 ?_)
   refine A6 8 ?_
   apply b7
   ·intro x w1 k1 hd
    refine l6 rfl ?_
    refine d6 ?_
    exact j7
   apply b7
   ·intro x w1 k1 hd
    refine i1 rfl (hga.to k1) rfl ?_
    refine d6 ?_
    exact j7
   apply b7
   ·intro x w1 k1 hd
    refine l6 rfl ?_
    refine d6 ?_
    exact j7
   apply b7
   ·intro x w1 k1 hd
    refine i1 rfl (hga.to k1) rfl ?_
    refine d6 ?_
    exact j7
   apply b7
   ·intro x w1 k1 hd
    refine l6 rfl ?_
    refine d6 ?_
    exact j7
   apply b7
   ·intro x w1 k1 hd
    refine i1 rfl (hgb.to k1) rfl ?_
    refine d6 ?_
    exact j7
   refine b7 (e:=ar8 S 227 .u32 (a.natAbs - b.natAbs)) ?_ ?_
   ·intro x w1 k1 hd
    refine j1 (bm1 (hS.to k1) (ha.to k1) (hb.to k1) (by omega) hge) rfl ?_
    rintro v2 w2 ⟨k2,h2⟩
    exact d6 (D7 k2 h2)
   refine b7 (e:=am8 S 227 .u32 (a + b)) ?_ ?_
   ·intro x w1 k1 hd
    refine j1 (Z7 (a + b) hd.1 (be1 he hge) (a31 he hge)) rfl ?_
    rintro v2 w2 ⟨k2,h2⟩
    exact d6 (D7 k2 h2)
   refine J1 (J5 ?_)
   intro x w5 k5 hall
   obtain ⟨m5,hv5,h5⟩:=hall.1
   refine D1 rfl hv5 (hg.to k5) rfl h5.one ?_
   intro w6 k6 hg6
   repeat (first | refine wW ?_ | refine r8 ?_ | refine N6 ?_)
   refine Y0 rfl (o7 hg6 rfl) ⟨Keeps.past (k.trans k5) k6 (by omega),m5,rfl,h5.wrT k6 (hg.to k5) (by decide)⟩
  have hge : a.natAbs ≤ b.natAbs:=by have:=hc.1; omega
  have he2 : ¬ (b < 0 ↔ a < 0):=fun h=>he h.symm
  repeat (first | refine D3 ?_ | refine wp_skip ?_)
  refine A6 8 ?_
  apply b7
  ·intro x w1 k1 hd
   refine l6 rfl ?_
   refine d6 ?_
   exact j7
  apply b7
  ·intro x w1 k1 hd
   refine i1 rfl (hgb.to k1) rfl ?_
   refine d6 ?_
   exact j7
  apply b7
  ·intro x w1 k1 hd
   refine l6 rfl ?_
   refine d6 ?_
   exact j7
  apply b7
  ·intro x w1 k1 hd
   refine i1 rfl (hgb.to k1) rfl ?_
   refine d6 ?_
   exact j7
  apply b7
  ·intro x w1 k1 hd
   refine l6 rfl ?_
   refine d6 ?_
   exact j7
  apply b7
  ·intro x w1 k1 hd
   refine i1 rfl (hga.to k1) rfl ?_
   refine d6 ?_
   exact j7
  refine b7 (e:=ar8 S 227 .u32 (b.natAbs - a.natAbs)) ?_ ?_
  ·intro x w1 k1 hd
   refine j1 (bm1 (hS.to k1) (hb.to k1) (ha.to k1) (by omega) hge) rfl ?_
   rintro v2 w2 ⟨k2,h2⟩
   exact d6 (D7 k2 h2)
  refine b7 (e:=am8 S 227 .u32 (a + b)) ?_ ?_
  ·intro x w1 k1 hd
   refine j1 (Z7 (a + b) hd.1 (by rw [Int.add_comm]; exact be1 he2 hge) (by rw [Int.add_comm]; exact a31 he2 hge)) rfl ?_
   rintro v2 w2 ⟨k2,h2⟩
   exact d6 (D7 k2 h2)
  refine J1 (J5 ?_)
  intro x w5 k5 hall
  obtain ⟨m5,hv5,h5⟩:=hall.1
  refine D1 rfl hv5 (hg.to k5) rfl h5.one ?_
  intro w6 k6 hg6
  repeat refine wW ?_
  refine Y0 rfl (o7 hg6 rfl) ⟨Keeps.past (k.trans k5) k6 (by omega),m5,rfl,h5.wrT k6 (hg.to k5) (by decide)⟩
end Go.Proofs.YtmkhgjccoolfjaaGreatDoor
end

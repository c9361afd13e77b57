/- The proof's own small logic: frames as functions, one rule for each form of code and of operation. It holds for every program. -/
import Derived.WalkKit
import Derived.WalkLawsBesides
import Derived.WalkSpells
import Derived.Orders
set_option linter.unusedVariables false
set_option linter.unusedSimpArgs false
namespace Go.Proofs.YtpmnjjmngogkkaaGreatDoor
open Go Go.RowKit

/-- A test, closed to unfolding. -/
@[irreducible] noncomputable def tst (p : Prop) : Bool := @decide p (Classical.propDecidable p)
theorem tst_true {p : Prop} (h : p) : tst p = true := by unfold tst; exact @decide_eq_true p (Classical.propDecidable p) h
theorem tst_false {p : Prop} (h : ¬ p) : tst p = false := by unfold tst; exact @decide_eq_false p (Classical.propDecidable p) h
theorem of_tst {p : Prop} (h : tst p = true) : p := by unfold tst at h; exact @of_decide_eq_true p (Classical.propDecidable p) h
theorem not_of_tst {p : Prop} (h : tst p = false) : ¬ p := by unfold tst at h; exact @of_decide_eq_false p (Classical.propDecidable p) h
theorem decide_tst {p : Prop} [Decidable p] : decide p = tst p := by
  by_cases h : p
  · rw [tst_true h, decide_eq_true h]
  · rw [tst_false h, decide_eq_false h]
theorem not_tst {p : Prop} : (!tst p) = tst (¬ p) := by
  by_cases h : p
  · rw [tst_true h, tst_false (fun k => k h)]; rfl
  · rw [tst_false h, tst_true h]; rfl
abbrev Fr := Nat → Value
def upd (ρ : Fr) (d : Nat) (v : Value) : Fr := fun i => bif Nat.beq i d then v else ρ i
def updO (ρ : Fr) (d : Option Tmp) (v : Value) : Fr := match d with | none => ρ | some d => upd ρ d v
def ev (ρ : Fr) (x : Operand) : Value := match x with
  | .tmp t => ρ t
  | .const v => v
  | .global g => .pointer (some ⟨g, 0, none⟩)
  | .func f => .func (.func f) #[] #[]

theorem upd_same (ρ : Fr) (d : Nat) (v : Value) : upd ρ d v d = v := by simp [upd]
theorem upd_ne {ρ : Fr} {i d : Nat} {v : Value} (h : Nat.beq i d = false) : upd ρ d v i = ρ i := by simp [upd, h]
theorem upd_self {ρ : Fr} {d : Nat} {v : Value} (h : ρ d = v) : upd ρ d v = ρ := by
  funext i
  unfold upd
  cases hb : Nat.beq i d with
  | false => rfl
  | true => rw [Nat.eq_of_beq_eq_true hb, h]; rfl

def dstOk (n : Nat) (o : Oper) : Bool := match o.dst with | none => true | some d => Nat.blt d n
def codeOk (n : Nat) : Code → Bool
  | .region _ ops _ => ops.toList.all (dstOk n)
  | .seq a b => codeOk n a && codeOk n b
  | .cond _ a b => codeOk n a && codeOk n b
  | .block _ c => codeOk n c
  | .loop c => codeOk n c
  | .scope c => codeOk n c
  | .rangeFunc _ _ _ _ => false
  | _ => true

/-- The activation's temporaries are what the frame says. -/
structure Mt (n : Nat) (D : List Deferred) (a : Act) (ρ : Fr) : Prop where
  size : a.tmps.size = n
  defers : a.defers = D
  get : ∀ i, a.tmps.getD i undef = ρ i

theorem Mt.eval {n : Nat} {D : List Deferred} {a : Act} {ρ : Fr} (h : Mt n D a ρ) : a.eval = ev ρ := by
  funext x
  cases x with
  | tmp t => exact h.get t
  | _ => rfl
theorem Mt.put {n : Nat} {D : List Deferred} {a : Act} {ρ : Fr} (h : Mt n D a ρ) {d : Nat} (hd : Nat.blt d n = true) (v : Value) : Mt n D (a.put (some d) v) (upd ρ d v) := by
  have hd' : d < n := Nat.le_of_ble_eq_true hd
  refine ⟨by simp [Act.put, h.size], h.defers, fun i => ?_⟩
  by_cases e : i = d
  · subst e
    rw [upd_same]
    simp [Act.put, Array.getD, h.size, hd']
  · have hb : Nat.beq i d = false := by
      cases hb : Nat.beq i d with
      | false => rfl
      | true => exact absurd (Nat.eq_of_beq_eq_true hb) e
    rw [upd_ne hb, ← h.get i]
    have e' : d ≠ i := fun x => e x.symm
    simp [Act.put, Array.getD_eq_getD_getElem?, Array.getElem?_setIfInBounds_ne e']
theorem Mt.putO {n : Nat} {D : List Deferred} {a : Act} {ρ : Fr} (h : Mt n D a ρ) {o : Oper} (hd : dstOk n o = true) (v : Value) : Mt n D (a.put o.dst v) (updO ρ o.dst v) := by
  unfold dstOk at hd
  cases ho : o.dst with
  | none => exact h
  | some d => rw [ho] at hd; exact h.put hd v

abbrev Post := Exit → Fr → World → Prop
def lift (n : Nat) (D : List Deferred) (Q : Post) : Exit → Act → World → Prop := fun e a w => ∃ ρ, Mt n D a ρ ∧ Q e ρ w

def Wp (P : Program) (n : Nat) (c : Code) (Q : Post) (ρ : Fr) (w : World) : Prop :=
  codeOk n c = true → ∀ D a, Mt n D a ρ → c.wp P (lift n D Q) a w

def thenQ (K : Fr → World → Prop) (Q : Post) : Post := fun e ρ w => match e with | .normal => K ρ w | e => Q e ρ w
def blockQ (id : Nat) (Q : Post) : Post := fun e ρ w => match e with | .exit i => (bif Nat.beq i id then Q .normal ρ w else Q (.exit i) ρ w) | e => Q e ρ w

/-- What a call gives. -/
def Gives (P : Program) (f : FuncId) (args : List Value) (w : World) (Ψ : Value → World → Prop) : Prop :=
  Calls P f args.toArray w fun e w' => ∃ v, e = .returned v ∧ Ψ v w'
theorem Gives.mono {P : Program} {f : FuncId} {args : List Value} {w : World} {Ψ Φ : Value → World → Prop} (h : Gives P f args w Ψ) (k : ∀ v w', Ψ v w' → Φ v w') : Gives P f args w Φ :=
  Calls.mono h fun _ _ ⟨v, he, hv⟩ => ⟨v, he, k _ _ hv⟩

/-- One operation's run. -/
def Stp (P : Program) (σ : Operand → Value) (o : Oper) (w : World) (K : Value → World → Prop) : Prop :=
  match (execOp σ o).run P w with
  | .ok (.value v) w' => K v w'
  | .ok .skip w' => K undef w'
  | .ok (.enter f args) w' => Gives P f args.toList w' K
  | _ => False

theorem Stp.mono {P : Program} {σ : Operand → Value} {o : Oper} {w : World} {K K' : Value → World → Prop} (h : Stp P σ o w K) (k : ∀ v w', K v w' → K' v w') : Stp P σ o w K' := by
  unfold Stp at *
  split <;> rename_i hr <;> simp only [hr] at h
  · exact k _ _ h
  · exact k _ _ h
  · exact h.mono k

theorem Stp.wp {P : Program} {σ : Operand → Value} {o : Oper} {a : Act} {w : World} {K : Act → World → Prop} {Q : Exit → Act → World → Prop} (hσ : a.eval = σ)
    (h : Stp P σ o w (fun v w' => K (a.put o.dst v) w')) : o.wp P a w K Q := by
  unfold Stp at h
  unfold Oper.wp
  rw [hσ]
  generalize (execOp σ o).run P w = r at h
  split at h
  · exact h
  · exact h
  · show Calls _ _ _ _ _
    unfold Gives at h
    simp only [Array.toArray_toList] at h
    exact Calls.mono h fun e w' ⟨v, he, hk⟩ => by subst he; exact hk
  · exact h.elim

/-- The rest of a region's operations, in the text's order. -/
def WpR (P : Program) (n : Nat) (all : List Oper) (Q : Post) (l : List Oper) (ρ : Fr) (w : World) : Prop :=
  l.all (dstOk n) = true → ∀ D a, Mt n D a ρ → wpList P all.toArray (lift n D Q) l a w

section rules
variable {P : Program} {n : Nat} {Q : Post} {ρ : Fr} {w : World}

theorem wp_seq {a b : Code} (h : Wp P n a (thenQ (fun ρ w => Wp P n b Q ρ w) Q) ρ w) : Wp P n (.seq a b) Q ρ w := by
  intro hc D act hm
  simp only [codeOk, Bool.and_eq_true] at hc
  refine Go.wp_seq (Go.wp_mono (h hc.1 _ act hm) ?_)
  rintro e a' w' ⟨ρ', hm', hq⟩
  cases e with
  | normal => exact hq hc.2 _ a' hm'
  | _ => exact ⟨ρ', hm', hq⟩
theorem wp_skip (h : Q .normal ρ w) : Wp P n .skip Q ρ w := fun _ D a hm => Go.wp_skip ⟨ρ, hm, h⟩
theorem wp_label {l : Nat} (h : Q .normal ρ w) : Wp P n (.label l) Q ρ w := fun _ D a hm => Go.wp_label ⟨ρ, hm, h⟩
theorem wp_exit {i : Nat} (h : Q (.exit i) ρ w) : Wp P n (.exit i) Q ρ w := fun _ D a hm => Go.wp_exit ⟨ρ, hm, h⟩
theorem wp_ret (h : Q .ret ρ w) : Wp P n .ret Q ρ w := fun _ D a hm => Go.wp_ret ⟨ρ, hm, h⟩
theorem wp_block {i : Nat} {c : Code} (h : Wp P n c (blockQ i Q) ρ w) : Wp P n (.block i c) Q ρ w := by
  intro hc D act hm
  refine Go.wp_block (Go.wp_mono (h hc _ act hm) ?_)
  rintro e a' w' ⟨ρ', hm', hq⟩
  cases e with
  | exit j =>
    simp only [Exit.inBlock]
    by_cases e : j = i
    · subst e
      rw [if_pos rfl]
      simp only [blockQ, Nat.beq_refl, cond_true] at hq
      exact ⟨ρ', hm', hq⟩
    · rw [if_neg e]
      have hb : Nat.beq j i = false := by
        cases hb : Nat.beq j i with
        | false => rfl
        | true => exact absurd (Nat.eq_of_beq_eq_true hb) e
      simp only [blockQ, hb, cond_false] at hq
      exact ⟨ρ', hm', hq⟩
  | _ => exact ⟨ρ', hm', hq⟩
theorem wp_cond_true {c : Operand} {x y : Code} (hc : ev ρ c = .bool true) (h : Wp P n x Q ρ w) : Wp P n (.cond c x y) Q ρ w := by
  intro hok D act hm
  simp only [codeOk, Bool.and_eq_true] at hok
  exact Go.wp_cond_true (by rw [hm.eval]; exact hc) (h hok.1 _ act hm)
theorem wp_cond_false {c : Operand} {x y : Code} (hc : ev ρ c = .bool false) (h : Wp P n y Q ρ w) : Wp P n (.cond c x y) Q ρ w := by
  intro hok D act hm
  simp only [codeOk, Bool.and_eq_true] at hok
  exact Go.wp_cond_false (by rw [hm.eval]; exact hc) (h hok.2 _ act hm)
theorem wp_cond {c : Operand} {x y : Code} {b : Bool} (hc : ev ρ c = .bool b) (ht : b = true → Wp P n x Q ρ w) (hf : b = false → Wp P n y Q ρ w) : Wp P n (.cond c x y) Q ρ w := by
  cases b
  · exact wp_cond_false hc (hf rfl)
  · exact wp_cond_true hc (ht rfl)
theorem wp_cond_dec {c : Operand} {x y : Code} {p : Prop} (hc : ev ρ c = .bool (tst p)) (ht : p → Wp P n x Q ρ w) (hf : ¬ p → Wp P n y Q ρ w) : Wp P n (.cond c x y) Q ρ w :=
  wp_cond hc (fun h => ht (of_tst h)) (fun h => hf (not_of_tst h))
theorem wp_cond_yes {c : Operand} {x y : Code} {p : Prop} (hc : ev ρ c = .bool (tst p)) (hp : p) (h : Wp P n x Q ρ w) : Wp P n (.cond c x y) Q ρ w := wp_cond_true (by rw [hc, tst_true hp]) h
theorem wp_cond_no {c : Operand} {x y : Code} {p : Prop} (hc : ev ρ c = .bool (tst p)) (hp : ¬ p) (h : Wp P n y Q ρ w) : Wp P n (.cond c x y) Q ρ w := wp_cond_false (by rw [hc, tst_false hp]) h
/-- A slot's value may be written out. -/
theorem wp_learn {c : Code} (d : Nat) {v : Value} (h : ρ d = v) (k : Wp P n c Q (upd ρ d v) w) : Wp P n c Q ρ w := by rwa [upd_self h] at k
theorem wp_mono {c : Code} {Q' : Post} (h : Wp P n c Q ρ w) (k : ∀ e ρ w, Q e ρ w → Q' e ρ w) : Wp P n c Q' ρ w :=
  fun hc D a hm => Go.wp_mono (h hc _ a hm) fun _ _ _ ⟨ρ', hm', hq⟩ => ⟨ρ', hm', k _ _ _ hq⟩

/-- The frame agrees with another one but for some slots. -/
def inW : List (Nat × Nat) → Nat → Bool
  | [], _ => false
  | (a, b) :: r, i => bif Nat.ble a i then (bif Nat.ble i b then true else inW r i) else inW r i
def Agree (W : List (Nat × Nat)) (ρ ρ' : Fr) : Prop := ∀ i, inW W i = false → ρ' i = ρ i
theorem agree_refl {W : List (Nat × Nat)} : Agree W ρ ρ := fun _ _ => rfl
theorem agree_upd {W : List (Nat × Nat)} {ρ' : Fr} {d : Nat} {v : Value} (hd : inW W d = true) (h : Agree W ρ ρ') : Agree W ρ (upd ρ' d v) := by
  intro i hi
  rw [upd_ne, h i hi]
  cases hb : Nat.beq i d with
  | false => rfl
  | true => rw [Nat.eq_of_beq_eq_true hb, hd] at hi; cases hi
def over (W : List (Nat × Nat)) (u ρ : Fr) : Fr := fun i => bif inW W i then u i else ρ i
theorem over_of_agree {W : List (Nat × Nat)} {ρ' : Fr} (h : Agree W ρ ρ') : ρ' = over W ρ' ρ := by
  funext i
  unfold over
  cases hi : inW W i with
  | true => rfl
  | false => exact h i hi
theorem agree_over {W : List (Nat × Nat)} {u : Fr} : Agree W ρ (over W u ρ) := by
  intro i hi
  unfold over
  rw [hi]
  rfl

def subW (V W : List (Nat × Nat)) : Bool := V.all fun p => W.any fun q => Nat.ble q.1 p.1 && Nat.ble p.2 q.2
theorem inW_iff {W : List (Nat × Nat)} {i : Nat} : inW W i = true ↔ ∃ p ∈ W, p.1 ≤ i ∧ i ≤ p.2 := by
  induction W with
  | nil => simp [inW]
  | cons p r ih =>
    obtain ⟨a, b⟩ := p
    simp only [inW, List.mem_cons, exists_eq_or_imp]
    cases ha : Nat.ble a i with
    | false =>
      have : ¬ a ≤ i := fun h => by rw [Nat.ble_eq_true_of_le h] at ha; cases ha
      simp [ih, this]
    | true =>
      have ha' := Nat.le_of_ble_eq_true ha
      cases hb : Nat.ble i b with
      | false =>
        have : ¬ i ≤ b := fun h => by rw [Nat.ble_eq_true_of_le h] at hb; cases hb
        simp [ih, this]
      | true =>
        have hb' := Nat.le_of_ble_eq_true hb
        simp [ha', hb']
theorem agree_sub {V W : List (Nat × Nat)} {ρ' u : Fr} (hs : subW V W = true) (h : Agree W ρ ρ') : Agree W ρ (over V u ρ') := by
  intro i hi
  unfold over
  cases hv : inW V i with
  | false => exact h i hi
  | true =>
    obtain ⟨p, hp, h1, h2⟩ := inW_iff.1 hv
    have h3 := List.all_eq_true.1 hs p hp
    obtain ⟨q, hq, h4⟩ := List.any_eq_true.1 h3
    simp only [Bool.and_eq_true] at h4
    have := inW_iff.2 ⟨q, hq, Nat.le_trans (Nat.le_of_ble_eq_true h4.1) h1, Nat.le_trans h2 (Nat.le_of_ble_eq_true h4.2)⟩
    rw [hi] at this
    cases this
/-- A loop: the slots of W are written by its body; I k holds of them and of the world at each round's head, k is less at the next. -/
theorem wp_loop {c : Code} (W : List (Nat × Nat)) (I : Nat → Fr → World → Prop) (k0 : Nat) (h0 : I k0 ρ w)
    (round : ∀ k u w', I k (over W u ρ) w' → Wp P n c (thenQ (fun ρ' w'' => Agree W ρ ρ' ∧ ∃ k', k' < k ∧ I k' ρ' w'') Q) (over W u ρ) w') :
    Wp P n (.loop c) Q ρ w := by
  intro hc D act hm b K cs
  have key : ∀ k act w' ρ', Mt n D act ρ' → Agree W ρ ρ' → I k ρ' w' →
      ∃ e a' w'', lift n D Q e a' w'' ∧ Arrives P (lone (b.at act (.code c :: .inLoop c :: K)) cs w') b K cs e a' w'' := by
    intro k
    induction k using Nat.strongRecOn with
    | _ k ih =>
      intro act w' ρ' hm' hag hI
      have ho := over_of_agree hag
      rw [ho] at hI
      obtain ⟨e, a₁, w₁, ⟨ρ₁, hm₁, hq⟩, harr⟩ := round k ρ' w' hI hc _ act (ho ▸ hm') b (.inLoop c :: K) cs
      cases e with
      | normal =>
        obtain ⟨hag₁, k', hlt, hI₁⟩ := hq
        obtain ⟨e₂, a₂, w₂, hq₂, harr₂⟩ := ih k' hlt a₁ w₁ ρ₁ hm₁ hag₁ hI₁
        exact ⟨e₂, a₂, w₂, hq₂, .of_steps (Steps.trans harr (.one step_inLoop)) harr₂⟩
      | exit id => exact ⟨_, a₁, w₁, ⟨ρ₁, hm₁, hq⟩, .pass (x := .inLoop c) rfl (fun _ _ => .inl (by simp)) harr⟩
      | goto l => exact ⟨_, a₁, w₁, ⟨ρ₁, hm₁, hq⟩, .pass (x := .inLoop c) rfl (fun _ _ => .inl (by simp)) harr⟩
      | ret => exact ⟨_, a₁, w₁, ⟨ρ₁, hm₁, hq⟩, .pass (x := .inLoop c) rfl (fun _ _ => .inl (by simp)) harr⟩
      | panic ch => exact ⟨_, a₁, w₁, ⟨ρ₁, hm₁, hq⟩, .pass (x := .inLoop c) rfl (fun _ _ => .inl (by simp)) harr⟩
      | outgrown => exact ⟨_, a₁, w₁, ⟨ρ₁, hm₁, hq⟩, .pass (x := .inLoop c) rfl (fun _ _ => .inl (by simp)) harr⟩
  obtain ⟨e, a', w', hq, harr⟩ := key k0 act w ρ hm agree_refl h0
  exact ⟨e, a', w', hq, .of_steps (.one step_loop) harr⟩

theorem wp_for {i : Nat} {c : Code} (W : List (Nat × Nat)) (I : Nat → Fr → World → Prop) (k0 : Nat) (h0 : I k0 ρ w)
    (round : ∀ k u w', I k (over W u ρ) w' → Wp P n c (thenQ (fun ρ' w'' => Agree W ρ ρ' ∧ ∃ k', k' < k ∧ I k' ρ' w'') (blockQ i Q)) (over W u ρ) w') :
    Wp P n (.block i (.loop c)) Q ρ w := wp_block (wp_loop W I k0 h0 round)
/-- What holds between two parts: ways meet again. -/
theorem wp_mid {c : Code} {K : Fr → World → Prop} (W : List (Nat × Nat)) (R : Fr → World → Prop) (h1 : Wp P n c (thenQ (fun ρ' w' => Agree W ρ ρ' ∧ R ρ' w') Q) ρ w)
    (h2 : ∀ u w', R (over W u ρ) w' → K (over W u ρ) w') : Wp P n c (thenQ K Q) ρ w := by
  refine wp_mono h1 fun e ρ' w' hq => ?_
  cases e with
  | normal =>
    obtain ⟨hag, hR⟩ := hq
    have ho := over_of_agree hag
    show K ρ' w'
    rw [ho] at hR ⊢
    exact h2 ρ' w' hR
  | _ => exact hq
theorem wp_seq_region {j : Nat} {ops : Array Oper} {d : Bool} {b : Code} (h : Wp P n (.region j ops d) (thenQ (fun ρ w => Wp P n b Q ρ w) Q) ρ w) : Wp P n (.seq (.region j ops d) b) Q ρ w := wp_seq h
theorem wp_seq_seq {x y b : Code} (h : Wp P n (.seq x y) (thenQ (fun ρ w => Wp P n b Q ρ w) Q) ρ w) : Wp P n (.seq (.seq x y) b) Q ρ w := wp_seq h
theorem wp_seq_skip {b : Code} (h : Wp P n b Q ρ w) : Wp P n (.seq .skip b) Q ρ w := wp_seq (wp_skip h)
theorem wp_seq_bregion {i j : Nat} {ops : Array Oper} {d : Bool} {b : Code} (h : Wp P n (.block i (.region j ops d)) (thenQ (fun ρ w => Wp P n b Q ρ w) Q) ρ w) : Wp P n (.seq (.block i (.region j ops d)) b) Q ρ w := wp_seq h
theorem wp_seq_bseq {i : Nat} {x y b : Code} (h : Wp P n (.block i (.seq x y)) (thenQ (fun ρ w => Wp P n b Q ρ w) Q) ρ w) : Wp P n (.seq (.block i (.seq x y)) b) Q ρ w := wp_seq h
theorem wp_if {c : Operand} {x y b : Code} {p : Prop} (hc : ev ρ c = .bool (tst p)) (ht : p → Wp P n x (thenQ (fun ρ w => Wp P n b Q ρ w) Q) ρ w) (hf : ¬ p → Wp P n y (thenQ (fun ρ w => Wp P n b Q ρ w) Q) ρ w) :
    Wp P n (.seq (.cond c x y) b) Q ρ w := wp_seq (wp_cond_dec hc ht hf)
theorem wp_if_true {c : Operand} {x y b : Code} (hc : ev ρ c = .bool true) (h : Wp P n x (thenQ (fun ρ w => Wp P n b Q ρ w) Q) ρ w) : Wp P n (.seq (.cond c x y) b) Q ρ w := wp_seq (wp_cond_true hc h)
theorem wp_if_false {c : Operand} {x y b : Code} (hc : ev ρ c = .bool false) (h : Wp P n y (thenQ (fun ρ w => Wp P n b Q ρ w) Q) ρ w) : Wp P n (.seq (.cond c x y) b) Q ρ w := wp_seq (wp_cond_false hc h)
theorem wp_if_yes {c : Operand} {x y b : Code} {p : Prop} (hc : ev ρ c = .bool (tst p)) (hp : p) (h : Wp P n x (thenQ (fun ρ w => Wp P n b Q ρ w) Q) ρ w) : Wp P n (.seq (.cond c x y) b) Q ρ w := wp_seq (wp_cond_yes hc hp h)
theorem wp_if_no {c : Operand} {x y b : Code} {p : Prop} (hc : ev ρ c = .bool (tst p)) (hp : ¬ p) (h : Wp P n y (thenQ (fun ρ w => Wp P n b Q ρ w) Q) ρ w) : Wp P n (.seq (.cond c x y) b) Q ρ w := wp_seq (wp_cond_no hc hp h)
theorem wp_seq_block {i : Nat} {x b : Code} (h : Wp P n (.block i x) (thenQ (fun ρ w => Wp P n b Q ρ w) Q) ρ w) : Wp P n (.seq (.block i x) b) Q ρ w := wp_seq h
theorem wp_seq_cond {c : Operand} {x y b : Code} (h : Wp P n (.cond c x y) (thenQ (fun ρ w => Wp P n b Q ρ w) Q) ρ w) : Wp P n (.seq (.cond c x y) b) Q ρ w := wp_seq h
/-- An if whose ways meet again. -/
theorem wp_join {c : Operand} {x y : Code} {p : Prop} {K : Fr → World → Prop} (W : List (Nat × Nat)) (R : Fr → World → Prop) (hc : ev ρ c = .bool (tst p))
    (ht : p → Wp P n x (thenQ (fun ρ' w' => Agree W ρ ρ' ∧ R ρ' w') Q) ρ w) (hf : ¬ p → Wp P n y (thenQ (fun ρ' w' => Agree W ρ ρ' ∧ R ρ' w') Q) ρ w)
    (h2 : ∀ u w', R (over W u ρ) w' → K (over W u ρ) w') : Wp P n (.cond c x y) (thenQ K Q) ρ w := wp_mid W R (wp_cond_dec hc ht hf) h2
theorem wp_block_region {i j : Nat} {ops : Array Oper} {b : Bool} (h : Wp P n (.region j ops b) (blockQ i Q) ρ w) : Wp P n (.block i (.region j ops b)) Q ρ w := wp_block h
theorem wp_block_seq {i : Nat} {x y : Code} (h : Wp P n (.seq x y) (blockQ i Q) ρ w) : Wp P n (.block i (.seq x y)) Q ρ w := wp_block h
theorem wp_block_cond {i : Nat} {c : Operand} {x y : Code} (h : Wp P n (.cond c x y) (blockQ i Q) ρ w) : Wp P n (.block i (.cond c x y)) Q ρ w := wp_block h
theorem wp_block_block {i j : Nat} {x : Code} (h : Wp P n (.block j x) (blockQ i Q) ρ w) : Wp P n (.block i (.block j x)) Q ρ w := wp_block h
theorem wp_block_skip {i : Nat} (h : Q .normal ρ w) : Wp P n (.block i .skip) Q ρ w := wp_block (wp_skip h)
theorem wp_region {id : Nat} {l : List Oper} (h : WpR P n l Q l ρ w) : Wp P n (.region id l.toArray false) Q ρ w := by
  intro hc D act hm
  simp only [codeOk] at hc
  exact wp_region_lit (h (by simpa using hc) _ act hm)

theorem r_nil {all : List Oper} (h : Q .normal ρ w) : WpR P n all Q [] ρ w := fun _ D a hm => wpList_nil ⟨ρ, hm, h⟩
theorem r_learn {all l : List Oper} (d : Nat) {v : Value} (h : ρ d = v) (k : WpR P n all Q l (upd ρ d v) w) : WpR P n all Q l ρ w := by rwa [upd_self h] at k

theorem r_step {all rest : List Oper} {o : Oper} (hg : o.guard = none) (h : Stp P (ev ρ) o w (fun v w' => WpR P n all Q rest (updO ρ o.dst v) w')) : WpR P n all Q (o :: rest) ρ w := by
  intro hd D a hm
  simp only [List.all_cons, Bool.and_eq_true] at hd
  refine wpList_plain hg fun K hK => ?_
  refine Stp.wp (σ := ev ρ) hm.eval (h.mono fun v w' hw => ?_)
  exact hK _ _ (hw hd.2 _ _ (hm.putO hd.1 v))

def dstAt (all : List Oper) (j : Nat) : Option Nat := (all[j]?).bind (·.dst)
theorem yielded_mt {all : List Oper} {D : List Deferred} {a : Act} {j d : Nat} {b : Bool} (hm : Mt n D a ρ) (hd : dstAt all j = some d) (hv : ρ d = .bool b) : yielded all.toArray a.tmps j = some b := by
  unfold yielded
  have h1 : ((all.toArray)[j]?).bind (·.dst) = some d := by simpa [dstAt] using hd
  rw [h1]
  have hg := hm.get d
  rw [hv] at hg
  cases hx : a.tmps[d]? with
  | none => simp [Array.getD_eq_getD_getElem?, hx, undef] at hg
  | some v => simp [Array.getD_eq_getD_getElem?, hx] at hg; simp [hx, hg]
theorem yielded_undef {all : List Oper} {D : List Deferred} {a : Act} {j d : Nat} (hm : Mt n D a ρ) (hd : dstAt all j = some d) (hv : ρ d = undef) : yielded all.toArray a.tmps j = none := by
  unfold yielded
  have h1 : ((all.toArray)[j]?).bind (·.dst) = some d := by simpa [dstAt] using hd
  rw [h1]
  have hg := hm.get d
  rw [hv] at hg
  cases hx : a.tmps[d]? with
  | none => simp [hx]
  | some v => simp [Array.getD_eq_getD_getElem?, hx] at hg; simp [hx, hg, undef]

/-- A guarded operation whose guard says yes: as if there were none. -/
theorem r_guard_run {all rest : List Oper} {dst : Option Tmp} {op : Op} {ty : TypeId} {pos : String} {aft : Array Edge} {j d : Nat} {want : Bool}
    (hd : dstAt all j = some d) (hv : ρ d = .bool want) (h : WpR P n all Q (⟨dst, op, ty, pos, aft, none⟩ :: rest) ρ w) :
    WpR P n all Q (⟨dst, op, ty, pos, aft, some (j, want)⟩ :: rest) ρ w := by
  intro hok D a hm
  have hy := yielded_mt hm hd hv
  have h' := h hok _ a hm
  simp only [wpList, Region.wanted, hy, if_true, beq_self_eq_true] at h' ⊢
  exact h'
theorem r_guard_skip {all rest : List Oper} {dst : Option Tmp} {op : Op} {ty : TypeId} {pos : String} {aft : Array Edge} {j d : Nat} {want b : Bool}
    (hd : dstAt all j = some d) (hv : ρ d = .bool b) (hb : (b == want) = false) (h : WpR P n all Q rest (updO ρ dst undef) w) :
    WpR P n all Q (⟨dst, op, ty, pos, aft, some (j, want)⟩ :: rest) ρ w := by
  intro hok D a hm
  have hy := yielded_mt hm hd hv
  simp only [List.all_cons, Bool.and_eq_true] at hok
  have h' := h hok.2 _ _ (hm.putO (o := ⟨dst, op, ty, pos, aft, some (j, want)⟩) hok.1 undef)
  have hw : (some b == some want) = false := by simpa using hb
  simp only [wpList, Region.wanted, hy, hw]
  exact h'
theorem r_guard_undef {all rest : List Oper} {dst : Option Tmp} {op : Op} {ty : TypeId} {pos : String} {aft : Array Edge} {j d : Nat} {want : Bool}
    (hd : dstAt all j = some d) (hv : ρ d = undef) (h : WpR P n all Q rest (updO ρ dst undef) w) :
    WpR P n all Q (⟨dst, op, ty, pos, aft, some (j, want)⟩ :: rest) ρ w := by
  intro hok D a hm
  have hy := yielded_undef hm hd hv
  simp only [List.all_cons, Bool.and_eq_true] at hok
  have h' := h hok.2 _ _ (hm.putO (o := ⟨dst, op, ty, pos, aft, some (j, want)⟩) hok.1 undef)
  have hw : ((none : Option Bool) == some want) = false := rfl
  simp only [wpList, Region.wanted, hy, hw]
  exact h'
/-- The guard's test is parted. -/
theorem r_split {all l : List Oper} (d : Nat) {p : Prop} (hv : ρ d = .bool (tst p))
    (ht : p → WpR P n all Q l (upd ρ d (.bool true)) w) (hf : ¬ p → WpR P n all Q l (upd ρ d (.bool false)) w) : WpR P n all Q l ρ w := by
  by_cases h : p
  · exact r_learn d (by rw [hv, tst_true h]) (ht h)
  · exact r_learn d (by rw [hv, tst_false h]) (hf h)
theorem r_guard_split {all rest : List Oper} {dst : Option Tmp} {op : Op} {ty : TypeId} {pos : String} {aft : Array Edge} {j d : Nat} {want : Bool} {p : Prop}
    (hd : dstAt all j = some d) (hv : ρ d = .bool (tst p))
    (ht : p → WpR P n all Q (⟨dst, op, ty, pos, aft, some (j, want)⟩ :: rest) (upd ρ d (.bool true)) w) (hf : ¬ p → WpR P n all Q (⟨dst, op, ty, pos, aft, some (j, want)⟩ :: rest) (upd ρ d (.bool false)) w) :
    WpR P n all Q (⟨dst, op, ty, pos, aft, some (j, want)⟩ :: rest) ρ w := r_split d hv ht hf
theorem r_guard_yes {all rest : List Oper} {dst : Option Tmp} {op : Op} {ty : TypeId} {pos : String} {aft : Array Edge} {j d : Nat} {want : Bool} {p : Prop}
    (hd : dstAt all j = some d) (hv : ρ d = .bool (tst p)) (hp : p)
    (h : WpR P n all Q (⟨dst, op, ty, pos, aft, some (j, want)⟩ :: rest) (upd ρ d (.bool true)) w) :
    WpR P n all Q (⟨dst, op, ty, pos, aft, some (j, want)⟩ :: rest) ρ w := r_learn d (by rw [hv, tst_true hp]) h
theorem r_guard_no {all rest : List Oper} {dst : Option Tmp} {op : Op} {ty : TypeId} {pos : String} {aft : Array Edge} {j d : Nat} {want : Bool} {p : Prop}
    (hd : dstAt all j = some d) (hv : ρ d = .bool (tst p)) (hp : ¬ p)
    (h : WpR P n all Q (⟨dst, op, ty, pos, aft, some (j, want)⟩ :: rest) (upd ρ d (.bool false)) w) :
    WpR P n all Q (⟨dst, op, ty, pos, aft, some (j, want)⟩ :: rest) ρ w := r_learn d (by rw [hv, tst_false hp]) h
theorem q_then {K : Fr → World → Prop} (h : K ρ w) : thenQ K Q .normal ρ w := h
theorem q_then_exit {K : Fr → World → Prop} {i : Nat} (h : Q (.exit i) ρ w) : thenQ K Q (.exit i) ρ w := h
theorem q_then_ret {K : Fr → World → Prop} (h : Q .ret ρ w) : thenQ K Q .ret ρ w := h
theorem q_block {i : Nat} (h : Q .normal ρ w) : blockQ i Q .normal ρ w := h
theorem q_block_ret {i : Nat} (h : Q .ret ρ w) : blockQ i Q .ret ρ w := h
theorem q_block_hit {i j : Nat} (hb : Nat.beq i j = true) (h : Q .normal ρ w) : blockQ j Q (.exit i) ρ w := by simp only [blockQ, hb]; exact h
theorem q_block_miss {i j : Nat} (hb : Nat.beq i j = false) (h : Q (.exit i) ρ w) : blockQ j Q (.exit i) ρ w := by simp only [blockQ, hb]; exact h
end rules

/-- A function's end. -/
def resV (P : Program) (ρ : Fr) (w : World) : ResultVar → Value → Prop
  | .tmp t, v => v = ρ t
  | .cell a t, v => ∃ p, ρ a = .pointer (some p) ∧ (loadVar t p).run P w = .ok v w
def resAll (P : Program) (ρ : Fr) (w : World) : List ResultVar → List Value → Prop
  | [], vs => vs = []
  | r :: rs, vs => ∃ v vs', resV P ρ w r v ∧ resAll P ρ w rs vs' ∧ vs = v :: vs'
def shut (vs : List Value) : Value := match vs with | [v] => v | vs => .tuple vs.toArray
def endQ (P : Program) (fn : Func) (Ψ : Value → World → Prop) : Post := fun e ρ w => match e with
  | .normal | .ret => ∃ vs, resAll P ρ w fn.results.toList vs ∧ Ψ (shut vs) w
  | _ => False

def resF (tmps : Array Value) : ResultVar → Sem Value
  | .tmp t => pure (tmps.getD t undef)
  | .cell a t => do loadVar t (← asAddr (tmps.getD a undef))
theorem results_eq (fn : Func) (tmps : Array Value) : results fn tmps = (do let vs ← fn.results.mapM (resF tmps); pure (if h : vs.size = 1 then vs[0] else .tuple vs)) := by
  unfold results
  congr 1
theorem end_ret {P : Program} {fn : Func} {Ψ : Value → World → Prop} {ρ : Fr} {w : World} {l : List ResultVar} {vs : List Value} (hl : fn.results.toList = l) (h : resAll P ρ w l vs) (hv : Ψ (shut vs) w) : endQ P fn Ψ .ret ρ w := ⟨vs, hl ▸ h, hv⟩
/-- One result in a temporary. -/
theorem end_tmp {P : Program} {fn : Func} {Ψ : Value → World → Prop} {ρ : Fr} {w : World} {t : Tmp} {v : Value} (hl : fn.results.toList = [.tmp t]) (hr : ρ t = v) (hv : Ψ v w) : endQ P fn Ψ .ret ρ w :=
  ⟨[v], by rw [hl]; exact ⟨v, [], hr.symm, rfl, rfl⟩, hv⟩
theorem end_tmp2 {P : Program} {fn : Func} {Ψ : Value → World → Prop} {ρ : Fr} {w : World} {t u : Tmp} {v v2 : Value} (hl : fn.results.toList = [.tmp t, .tmp u]) (hr : ρ t = v) (hr2 : ρ u = v2) (hv : Ψ (.tuple #[v, v2]) w) : endQ P fn Ψ .ret ρ w :=
  ⟨[v, v2], by rw [hl]; exact ⟨v, [v2], hr.symm, ⟨v2, [], hr2.symm, rfl, rfl⟩, rfl⟩, hv⟩
theorem results_of {P : Program} {n : Nat} {D : List Deferred} {a : Act} {ρ : Fr} {w : World} (hm : Mt n D a ρ) : ∀ (l : List ResultVar) (vs : List Value), resAll P ρ w l vs →
    (l.mapM (resF a.tmps)).run P w = .ok vs w := by
  intro l
  induction l with
  | nil => intro vs h; simp only [resAll] at h; subst h; rfl
  | cons r rs ih =>
    rintro vs ⟨v, vs', hr, hrs, rfl⟩
    have h2 := ih vs' hrs
    have h1 : (resF a.tmps r).run P w = .ok v w := by
      cases r with
      | tmp t => simp only [resV] at hr; subst hr; simp [resF, hm.get]
      | cell x t =>
        obtain ⟨p, hp, hl⟩ := hr
        simp only [resF, hm.get, hp, asAddr]
        simpa using hl
    simp only [List.mapM_cons, Sem.run_bind, h1, Result.andThen, h2, Sem.run_pure]

theorem results_run {P : Program} {n : Nat} {D : List Deferred} {a : Act} {ρ : Fr} {w : World} {fn : Func} (hm : Mt n D a ρ) {vs : List Value} (h : resAll P ρ w fn.results.toList vs) :
    (results fn a.tmps).run P w = .ok (shut vs) w := by
  have h1 := results_of hm _ _ h
  rw [results_eq, Array.mapM_eq_mapM_toList]
  have h2 : (List.toArray <$> List.mapM (resF a.tmps) fn.results.toList).run P w = .ok vs.toArray w := by
    rw [map_eq_pure_bind, Sem.run_bind, h1]
    rfl
  rw [Sem.run_bind, h2]
  simp only [Result.andThen, Sem.run_pure]
  match vs with
  | [] => rfl
  | [v] => rfl
  | u :: v :: r => simp [shut]

theorem gives_of {P : Program} {f : FuncId} {fn : Func} {c : Code} {args : List Value} {w : World} {Ψ : Value → World → Prop}
    (hf : P.funcs[f]? = some fn) (hb : fn.body = some c) (hok : codeOk fn.ntmps c = true) (hn0 : Nat.ble args.length fn.ntmps = true)
    (h : Wp P fn.ntmps c (endQ P fn Ψ) (fun i => args.getD i undef) w) : Gives P f args w Ψ := by
  have hn : args.length ≤ fn.ntmps := Nat.le_of_ble_eq_true hn0
  refine calls_of_wp hf hb ?_
  have hm : Mt fn.ntmps [] { tmps := args.toArray ++ Array.replicate (fn.ntmps - args.toArray.size) undef, defers := [] } (fun i => args.getD i undef) := by
    refine ⟨by simp; omega, rfl, fun i => ?_⟩
    simp only [Array.getD_eq_getD_getElem?, List.getD_eq_getElem?_getD]
    rw [Array.getElem?_append]
    split
    · simp
    · rename_i hlt
      simp at hlt
      rw [List.getElem?_eq_none hlt]
      simp only [Array.getElem?_replicate]
      split <;> rfl
  refine Go.wp_mono (h hok _ _ hm) ?_
  rintro e a w' ⟨ρ, hm', hq⟩
  cases e with
  | normal => obtain ⟨vs, hr, hv⟩ := hq; exact ⟨hm'.defers, _, results_run hm' hr, _, rfl, hv⟩
  | ret => obtain ⟨vs, hr, hv⟩ := hq; exact ⟨hm'.defers, _, results_run hm' hr, _, rfl, hv⟩
  | _ => exact hq.elim
attribute [irreducible] Wp WpR
end Go.Proofs.YtpmnjjmngogkkaaGreatDoor

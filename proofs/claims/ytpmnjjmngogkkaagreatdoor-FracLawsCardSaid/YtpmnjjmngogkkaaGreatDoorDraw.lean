/- Regions that draw their order: each operation of the head is met at whatever later world it runs, from what is known of the operations that it waits for; the tail runs in the text's order. It holds for every program. -/
import Derived.Test.YtpmnjjmngogkkaaGreatDoorData
import Derived.StillTail
set_option linter.unusedVariables false
set_option linter.unusedSimpArgs false
namespace Go.Proofs.YtpmnjjmngogkkaaGreatDoor
open Go Go.RowKit

/-- What is known of an operation's value. -/
structure Ent where
  X : Option Value
  p : Value → World → Prop
  keep : ∀ v w w', p v w → Ext w w' → p v w'
  hX : ∀ v w Y, p v w → X = some Y → v = Y
  hY : ∀ Y w, X = some Y → p Y w
  /-- A block of its own. -/
  fr : Bool
  hfr : fr = true → ∀ v w, p v w → ∃ g, v = .pointer (some ⟨g, 0, none⟩) ∧ g < w.heap.size
def Ent.eq (Y : Value) : Ent := ⟨some Y, fun v _ => v = Y, fun _ _ _ h _ => h, fun v w Z h hZ => by simp at hZ; rw [← hZ]; exact h, fun Z w hZ => by simp at hZ; exact hZ.symm, false, fun h => by cases h⟩
def Ent.of (p : Value → World → Prop) (h : ∀ v w w', p v w → Ext w w' → p v w') : Ent := ⟨none, p, h, fun v w Y _ h => by simp at h, fun Y w h => by simp at h, false, fun h => by cases h⟩
/-- A block that the operation itself makes, past b: two such are two. -/
def Ent.new (b : Nat) (T : TypeId) (cs : List Value) : Ent :=
  ⟨none, fun v w => ∃ g, v = .pointer (some ⟨g, 0, none⟩) ∧ Blk w g T cs ∧ b ≤ g, fun v w w' ⟨g, h, hb, hg⟩ k => ⟨g, h, hb.to k, hg⟩, fun v w Y _ h => by simp at h, fun Y w h => by simp at h, true, fun _ v w ⟨g, h, hb, _⟩ => ⟨g, h, hb.lt⟩⟩

def hasEdge : List Edge → Nat → Bool
  | [], _ => false
  | e :: r, j => bif Nat.beq e.on j && Region.binds .any e then true else hasEdge r j
/-- Operations of the head that have run, the last one first. -/
abbrev Acc := List (Nat × Option Tmp × Ent)
def frA (ρ : Fr) (x : Nat → Value) : Acc → Fr
  | [] => ρ
  | (i, d, e) :: r => updO (frA ρ x r) d (e.X.getD (x i))
def depsA (x : Nat → Value) (w : World) (es : List Edge) : Acc → Prop
  | [] => True
  | (i, _, e) :: r => (bif hasEdge es i then e.p (e.X.getD (x i)) w else True) ∧ depsA x w es r
def allA (x : Nat → Value) (w : World) : Acc → Prop
  | [] => True
  | (i, _, e) :: r => e.p (e.X.getD (x i)) w ∧ allA x w r
def distOne (x : Nat → Value) (v : Value) : Acc → Prop
  | [] => True
  | (i, _, e) :: r => (bif e.fr then v ≠ e.X.getD (x i) else True) ∧ distOne x v r
/-- Blocks of their own are two by two apart. -/
def distA (x : Nat → Value) : Acc → Prop
  | [] => True
  | (i, _, e) :: r => (bif e.fr then distOne x (e.X.getD (x i)) r else True) ∧ distA x r
def obQ (w : World) (d : Option Tmp) (e : Ent) : Post := fun ex ρ' w' => ex = .normal ∧ Ext w w' ∧ ∃ t, d = some t ∧ e.p (ρ' t) w' ∧ (e.fr = true → ∀ g, ρ' t = .pointer (some ⟨g, 0, none⟩) → w.heap.size ≤ g)
def Obs (P : Program) (n : Nat) (all : List Oper) (ρ : Fr) (w : World) (K : Acc → Prop) : Acc → Nat → List Oper → Prop
  | acc, _, [] => K acc
  | acc, i, o :: r => ∃ e : Ent, (∀ x w', Ext w w' → depsA x w' o.after.toList acc → WpR P n all (obQ w' o.dst e) [o] (frA ρ x acc) w') ∧ Obs P n all ρ w K ((i, o.dst, e) :: acc) (i + 1) r

/-- The form of the region: the head's slots are apart, each operation waits for those that it reads; the tail waits for all. -/
def operTmps (o : Oper) : List Tmp := o.op.operands.toList.filterMap fun | .tmp t => some t | _ => none
def headOk : List (Nat × Option Tmp) → Nat → List Oper → Bool
  | _, _, [] => true
  | done, i, o :: r =>
    (match o.dst with | some d => done.all (fun p => p.2 != some d) | none => false) &&
    (match o.op with | .select .. => false | _ => true) &&
    o.after.toList.all (fun e => !Region.binds .any e || Nat.blt e.on i) &&
    done.all (fun p => hasEdge o.after.toList p.1 || match p.2 with | some d => !(operTmps o).contains d && (match o.guard with | some (g, _) => g != p.1 | none => true) | none => true) &&
    (match o.guard with | some (g, _) => Nat.blt g i | none => true) &&
    (r.all fun o' => match o.dst with | some d => !(operTmps o).contains d | none => true) &&
    headOk ((i, o.dst) :: done) (i + 1) r
/-- No operation of the head reads a slot that a later one writes. -/
def lateOk : List Oper → Bool
  | [] => true
  | o :: r => (r.all fun o' => match o'.dst with | some d => !(operTmps o).contains d | none => true) && (match o.dst with | some d => !(operTmps o).contains d | none => true) && lateOk r
def canonListed (n N : Nat) : Array Bool := ((List.range N).map fun i => decide (i < n)).toArray
def drawOk (l : List Oper) (t : Nat) : Bool :=
  headOk [] 0 (l.take t) && lateOk (l.take t) && Nat.blt t l.length && Region.sinkB .any l.toArray t && Region.chainB .any l.toArray t && Region.seqB .any l.toArray (l.length - t) t (canonListed t l.length)

section
variable {P : Program} {n : Nat} {all : List Oper} {ρ : Fr} {w : World} {K : Acc → Prop}
abbrev Trip := Nat × Option Tmp × Ent
def Ob (P : Program) (n : Nat) (all : List Oper) (ρ : Fr) (w : World) (o : Oper) (acc : Acc) (e : Ent) : Prop :=
  ∀ x w', Ext w w' → depsA x w' o.after.toList acc → WpR P n all (obQ w' o.dst e) [o] (frA ρ x acc) w'
theorem obs_list : ∀ (r : List Oper) (acc : Acc) (i : Nat), Obs P n all ρ w K acc i r →
    ∃ L : List Trip, L.length = r.length ∧ K (L.reverse ++ acc) ∧ ∀ k (hk : k < r.length), ∃ e, L[k]? = some (i + k, r[k].dst, e) ∧ Ob P n all ρ w r[k] ((L.take k).reverse ++ acc) e := by
  intro r
  induction r with
  | nil => intro acc i h; exact ⟨[], rfl, h, fun k hk => absurd hk (by simp)⟩
  | cons o r ih =>
    rintro acc i ⟨e, ho, hr⟩
    obtain ⟨L, hl, hK, hL⟩ := ih _ _ hr
    refine ⟨(i, o.dst, e) :: L, by simp [hl], by simpa using hK, fun k hk => ?_⟩
    cases k with
    | zero => exact ⟨e, rfl, ho⟩
    | succ k =>
      obtain ⟨e', h1, h2⟩ := hL k (by simpa using hk)
      refine ⟨e', ?_, ?_⟩
      · simp only [List.getElem?_cons_succ, h1, List.getElem_cons_succ]
        rw [show i + 1 + k = i + (k + 1) by omega]
      · simpa using h2

theorem hasEdge_spec : ∀ {es : List Edge} {j : Nat}, hasEdge es j = true → ∃ e ∈ es, Region.binds .any e = true ∧ e.on = j := by
  intro es
  induction es with
  | nil => intro j h; simp [hasEdge] at h
  | cons e r ih =>
    intro j h
    simp only [hasEdge] at h
    cases hb : (Nat.beq e.on j && Region.binds .any e) with
    | true =>
      simp only [Bool.and_eq_true] at hb
      exact ⟨e, List.mem_cons_self .., hb.2, Nat.eq_of_beq_eq_true hb.1⟩
    | false =>
      rw [hb] at h
      obtain ⟨e', h1, h2⟩ := ih h
      exact ⟨e', List.mem_cons_of_mem _ h1, h2⟩

/-- What headOk says of one operation. -/
structure HOk (done : List (Nat × Option Tmp)) (i : Nat) (o : Oper) : Prop where
  dst : ∃ d, o.dst = some d ∧ ∀ p ∈ done, p.2 ≠ some d
  sel : ∀ cs b, o.op ≠ .select cs b
  low : ∀ e ∈ o.after, Region.binds .any e = true → e.on < i
  deps : ∀ p ∈ done, ∀ d, p.2 = some d → hasEdge o.after.toList p.1 = true ∨ (d ∉ operTmps o ∧ ∀ g b, o.guard = some (g, b) → g ≠ p.1)
  guard : ∀ g b, o.guard = some (g, b) → g < i
theorem headOk_list : ∀ (r : List Oper) (done : List (Nat × Option Tmp)) (i : Nat), headOk done i r = true → ∀ k (hk : k < r.length),
    HOk (((List.range k).map fun j => (i + j, (r[j]?.bind (·.dst)))).reverse ++ done) (i + k) r[k] := by
  intro r
  induction r with
  | nil => intro done i h k hk; exact absurd hk (by simp)
  | cons o r ih =>
    intro done i h k hk
    simp only [headOk, Bool.and_eq_true] at h
    obtain ⟨⟨⟨⟨⟨⟨h1, h2⟩, h3⟩, h4⟩, h5⟩, h6⟩, h7⟩ := h
    cases k with
    | zero =>
      simp only [List.range_zero, List.map_nil, List.reverse_nil, List.nil_append, Nat.add_zero, List.getElem_cons_zero]
      refine ⟨?_, ?_, ?_, ?_, ?_⟩
      · cases hd : o.dst with
        | none => rw [hd] at h1; cases h1
        | some d =>
          rw [hd] at h1
          refine ⟨d, rfl, fun p hp => ?_⟩
          have := List.all_eq_true.1 h1 p hp
          simpa using this
      · intro cs b e
        rw [e] at h2
        cases h2
      · intro e he hb
        have := List.all_eq_true.1 h3 e (Array.mem_toList_iff.2 he)
        simp only [hb, Bool.not_true, Bool.false_or] at this
        exact Nat.le_of_ble_eq_true this
      · intro p hp d hd
        have := List.all_eq_true.1 h4 p hp
        simp only [Bool.or_eq_true, hd, Bool.and_eq_true] at this
        rcases this with h | ⟨ha, hb⟩
        · exact .inl h
        · refine .inr ⟨by simpa using ha, fun g b hg => ?_⟩
          rw [hg] at hb
          simpa using hb
      · intro g b hg
        rw [hg] at h5
        exact Nat.le_of_ble_eq_true h5
    | succ k =>
      have := ih _ _ h7 k (by simpa using hk)
      have e1 : ((List.range (k + 1)).map fun j => (i + j, ((o :: r)[j]?.bind (·.dst)))).reverse ++ done = ((List.range k).map fun j => (i + 1 + j, (r[j]?.bind (·.dst)))).reverse ++ ((i, o.dst) :: done) := by
        rw [List.range_succ_eq_map]
        simp only [List.map_cons, List.map_map, List.reverse_cons, List.append_assoc, List.cons_append, List.nil_append, List.getElem?_cons_zero, Option.bind_some, Nat.add_zero]
        congr 2
        refine List.map_congr_left fun j _ => ?_
        simp only [Function.comp, List.getElem?_cons_succ]
        rw [show i + (j + 1) = i + 1 + j by omega]
      rw [e1, show i + (k + 1) = i + 1 + k by omega]
      simpa using this
theorem lateOk_list : ∀ (r : List Oper), lateOk r = true → ∀ k j (hk : k < r.length) (hj : j < r.length), k ≤ j → ∀ d, r[j].dst = some d → d ∉ operTmps r[k] := by
  intro r
  induction r with
  | nil => intro _ k j hk; exact absurd hk (by simp)
  | cons o r ih =>
    intro h k j hk hj hkj d hd
    simp only [lateOk, Bool.and_eq_true] at h
    cases k with
    | zero =>
      cases j with
      | zero =>
        simp only [List.getElem_cons_zero] at hd ⊢
        have := h.1.2
        rw [hd] at this
        simpa using this
      | succ j =>
        simp only [List.getElem_cons_succ, List.getElem_cons_zero] at hd ⊢
        have := List.all_eq_true.1 h.1.1 (r[j]'(by simpa using hj)) (List.getElem_mem _)
        rw [hd] at this
        simpa using this
    | succ k =>
      cases j with
      | zero => omega
      | succ j =>
        simp only [List.getElem_cons_succ] at hd ⊢
        exact ih h.2 k j (by simpa using hk) (by simpa using hj) (by omega) d hd

def unl (listed : Array Bool) : Nat → Nat
  | 0 => 0
  | k + 1 => unl listed k + (if listed.getD k false = true then 0 else 1)
theorem unl_set {listed : Array Bool} {i : Nat} (hi : i < listed.size) (h : listed.getD i false = false) : ∀ t, unl (listed.setIfInBounds i true) t = if i < t then unl listed t - 1 else unl listed t := by
  intro t
  induction t with
  | zero => rfl
  | succ t ih =>
    simp only [unl, ih]
    by_cases e : i = t
    · subst e
      have h1 : (listed.setIfInBounds i true).getD i false = true := by simp [hi]
      rw [h1, h]
      simp
    · rw [getD_set_ne false e]
      have hle : ∀ u, i < u → 0 < unl listed u := by
        intro u
        induction u with
        | zero => intro h0; omega
        | succ u ihu =>
          intro hu
          simp only [unl]
          by_cases e2 : i = u
          · subst e2; rw [h]; simp
          · have := ihu (by omega); omega
      by_cases hlt : i < t
      · have := hle t hlt
        simp only [if_pos hlt, if_pos (show i < t + 1 by omega)]
        omega
      · simp only [if_neg hlt, if_neg (show ¬ i < t + 1 by omega)]
theorem unl_zero {listed : Array Bool} : ∀ {t : Nat}, unl listed t = 0 → ∀ i, i < t → listed.getD i false = true := by
  intro t
  induction t with
  | zero => intro _ i hi; omega
  | succ t ih =>
    intro h i hi
    simp only [unl] at h
    by_cases e : i = t
    · subst e
      by_cases hl : listed.getD i false = true
      · exact hl
      · rw [if_neg hl] at h; omega
    · exact ih (by omega) i (by omega)
theorem unl_least {listed : Array Bool} : ∀ {t : Nat}, unl listed t ≠ 0 → ∃ i, i < t ∧ listed.getD i false = false ∧ ∀ j, j < i → listed.getD j false = true := by
  intro t
  induction t with
  | zero => intro h; exact absurd rfl h
  | succ t ih =>
    intro h
    by_cases h0 : unl listed t = 0
    · have hz := unl_zero h0
      simp only [unl, h0] at h
      by_cases hl : listed.getD t false = true
      · rw [if_pos hl] at h; omega
      · exact ⟨t, by omega, by simpa using hl, hz⟩
    · obtain ⟨i, h1, h2⟩ := ih h0
      exact ⟨i, by omega, h2⟩
theorem unl_new (N t : Nat) (h : t ≤ N) : unl (Array.replicate N false) t = t := by
  induction t with
  | zero => rfl
  | succ t ih => simp only [unl, ih (by omega), getD_replicate_false]; simp

theorem frA_out {x : Nat → Value} {s : Nat} : ∀ {acc : Acc}, (∀ p ∈ acc, p.2.1 ≠ some s) → frA ρ x acc s = ρ s := by
  intro acc
  induction acc with
  | nil => intro _; rfl
  | cons a r ih =>
    intro h
    obtain ⟨i, d, e⟩ := a
    have h1 := h _ (List.mem_cons_self ..)
    have h2 := ih fun p hp => h p (List.mem_cons_of_mem _ hp)
    cases d with
    | none => exact h2
    | some d =>
      show upd _ d _ s = _
      rw [upd_ne, h2]
      cases hb : Nat.beq s d with
      | false => rfl
      | true => exact absurd (congrArg some (Nat.eq_of_beq_eq_true hb).symm) h1
theorem frA_in {x : Nat → Value} {s i : Nat} {e : Ent} : ∀ {acc : Acc}, (i, some s, e) ∈ acc → (∀ p ∈ acc, p.2.1 = some s → p = (i, some s, e)) → frA ρ x acc s = e.X.getD (x i) := by
  intro acc
  induction acc with
  | nil => intro h; cases h
  | cons a r ih =>
    intro h hu
    obtain ⟨j, d, e'⟩ := a
    by_cases hd : d = some s
    · have := hu _ (List.mem_cons_self ..) hd
      simp only [Prod.mk.injEq] at this
      obtain ⟨rfl, rfl, rfl⟩ := this
      exact upd_same _ _ _
    · have hm : (i, some s, e) ∈ r := by
        rcases List.mem_cons.1 h with h | h
        · simp only [Prod.mk.injEq] at h; exact absurd h.2.1.symm hd
        · exact h
      have h2 := ih hm fun p hp => hu p (List.mem_cons_of_mem _ hp)
      cases d with
      | none => exact h2
      | some d =>
        show upd _ d _ s = _
        rw [upd_ne, h2]
        cases hb : Nat.beq s d with
        | false => rfl
        | true => exact absurd (congrArg some (Nat.eq_of_beq_eq_true hb).symm) hd
theorem depsA_of {x : Nat → Value} {w' : World} {es : List Edge} : ∀ {acc : Acc}, (∀ p ∈ acc, hasEdge es p.1 = true → p.2.2.p (p.2.2.X.getD (x p.1)) w') → depsA x w' es acc := by
  intro acc
  induction acc with
  | nil => intro _; trivial
  | cons a r ih =>
    intro h
    obtain ⟨i, d, e⟩ := a
    refine ⟨?_, ih fun p hp => h p (List.mem_cons_of_mem _ hp)⟩
    cases hb : hasEdge es i with
    | false => trivial
    | true => exact h _ (List.mem_cons_self ..) hb
theorem allA_of {x : Nat → Value} {w' : World} : ∀ {acc : Acc}, (∀ p ∈ acc, p.2.2.p (p.2.2.X.getD (x p.1)) w') → allA x w' acc := by
  intro acc
  induction acc with
  | nil => intro _; trivial
  | cons a r ih =>
    intro h
    obtain ⟨i, d, e⟩ := a
    exact ⟨h _ (List.mem_cons_self ..), ih fun p hp => h p (List.mem_cons_of_mem _ hp)⟩

theorem distA_of {x : Nat → Value} : ∀ {acc : Acc}, acc.Pairwise (fun p q => p.2.2.fr = true → q.2.2.fr = true → p.2.2.X.getD (x p.1) ≠ q.2.2.X.getD (x q.1)) → distA x acc := by
  have one : ∀ (v : Value) (r : Acc), (∀ q ∈ r, q.2.2.fr = true → v ≠ q.2.2.X.getD (x q.1)) → distOne x v r := by
    intro v r
    induction r with
    | nil => intro _; trivial
    | cons a r ih =>
      obtain ⟨i, d, e⟩ := a
      intro h
      refine ⟨?_, ih fun q hq => h q (List.mem_cons_of_mem _ hq)⟩
      cases he : e.fr with
      | false => trivial
      | true => exact h (i, d, e) (List.mem_cons_self ..) he
  intro acc
  induction acc with
  | nil => intro _; trivial
  | cons a r ih =>
    obtain ⟨i, d, e⟩ := a
    intro h
    rw [List.pairwise_cons] at h
    refine ⟨?_, ih h.2⟩
    cases he : e.fr with
    | false => trivial
    | true => exact one _ _ fun q hq hq2 => h.1 q hq he hq2

theorem upon_conv {P : Program} {o : Oper} {a a2 : Act} {r : Result Next} {K K2 : Act → World → Prop} {Q Q2 : Exit → Act → World → Prop}
    (hK : ∀ v w, K2 (a2.put o.dst v) w → K (a.put o.dst v) w) (hd : ∀ d v w, ¬ K2 ({ a2 with defers := d :: a2.defers }.put o.dst v) w) (hp : ∀ c a w, ¬ Q2 (.panic c) a w) (ho : ¬ LetsOut Q2)
    (h : o.upon P a2 K2 Q2 r) : o.upon P a K Q r := by
  cases r with
  | ok x w =>
    cases x <;> simp only [Oper.upon] at h ⊢
    case value v => exact hK _ _ h
    case skip => exact hK _ _ h
    case defer d => exact (hd _ _ _ h).elim
    case enter f args =>
      refine Calls.mono h fun e w' he => ?_
      cases e with
      | returned v => exact hK _ _ he
      | panicked c => exact (hp _ _ _ he).elim
      | outgrown => exact (ho he).elim
    case row r args => exact Rows.mono h fun v w' he => hK _ _ he
  | halt x w =>
    cases x <;> simp only [Oper.upon] at h ⊢
    case panic v => exact (hp _ _ _ h).elim

def actOf (n : Nat) (D : List Deferred) (F : Fr) : Act := { tmps := Array.ofFn (n := n) fun i => F i.val, defers := D }
theorem actOf_mt {n : Nat} {D : List Deferred} {F : Fr} (h : ∀ i, n ≤ i → F i = undef) : Mt n D (actOf n D F) F := by
  refine ⟨by simp [actOf], rfl, fun i => ?_⟩
  by_cases hi : i < n
  · simp [actOf, Array.getD, hi]
  · simp [actOf, Array.getD, hi, h i (by omega)]

/-- One operation of the head, met at a frame that it cannot tell from the other one. -/
theorem one_op {P : Program} {n : Nat} {D : List Deferred} {all : List Oper} {o : Oper} {e : Ent} {F ρ' : Fr} {a : Act} {w' : World} {K : Act → World → Prop} {Q : Exit → Act → World → Prop} {i d : Nat}
    (hi : all[i]? = some o) (hdst : o.dst = some d) (hdn : Nat.blt d n = true) (hsel : ∀ cs b, o.op ≠ .select cs b) (hF : ∀ k, n ≤ k → F k = undef) (hm : Mt n D a ρ')
    (heq : ∀ s ∈ operTmps o, F s = ρ' s) (hg : ∀ g b, o.guard = some (g, b) → ∀ s, dstAt all g = some s → F s = ρ' s)
    (h : WpR P n all (obQ w' o.dst e) [o] F w') (hK : ∀ v w2, Ext w' w2 → e.p v w2 → (e.fr = true → ∀ g, v = .pointer (some ⟨g, 0, none⟩) → w'.heap.size ≤ g) → K (a.put o.dst v) w2) : wpOp P all.toArray Q i K a w' := by
  have hm2 := actOf_mt (D := D) hF
  have hok : dstOk n o = true := by unfold dstOk; rw [hdst]; exact hdn
  unfold WpR at h
  have h2 := h (by simp [hok]) _ _ hm2
  have hev : execOp a.eval o = execOp (actOf n D F).eval o := by
    refine execOp_congr o hsel fun x hx => ?_
    cases x with
    | tmp s =>
      show a.tmps.getD s undef = (actOf n D F).tmps.getD s undef
      rw [hm.get, hm2.get]
      refine (heq s ?_).symm
      exact List.mem_filterMap.2 ⟨.tmp s, Array.mem_toList_iff.2 hx, rfl⟩
    | _ => rfl
  have hw : Region.wanted o (yielded all.toArray a.tmps) = Region.wanted o (yielded all.toArray (actOf n D F).tmps) := by
    unfold Region.wanted
    cases hgd : o.guard with
    | none => rfl
    | some gb =>
      obtain ⟨g, b⟩ := gb
      have hy : yielded all.toArray a.tmps g = yielded all.toArray (actOf n D F).tmps g := by
        unfold yielded
        cases hs : dstAt all g with
        | none =>
          have : ((all.toArray)[g]?).bind (·.dst) = none := by simpa [dstAt] using hs
          rw [this]; rfl
        | some s =>
          have : ((all.toArray)[g]?).bind (·.dst) = some s := by simpa [dstAt] using hs
          rw [this]
          have h3 : a.tmps.getD s undef = (actOf n D F).tmps.getD s undef := by rw [hm.get, hm2.get]; exact (hg g b hgd s hs).symm
          have s1 := hm.size
          have s2 := hm2.size
          by_cases hlt : s < n
          · have l1 : s < a.tmps.size := by omega
            have l2 : s < (actOf n D F).tmps.size := by omega
            simp only [Array.getD, l1, l2, dite_true] at h3
            have h4 : a.tmps[s] = (actOf n D F).tmps[s] := h3
            simp only [Option.bind_some, Array.getElem?_eq_getElem l1, Array.getElem?_eq_getElem l2, h4]
          · have l1 : a.tmps.size ≤ s := by omega
            have l2 : (actOf n D F).tmps.size ≤ s := by omega
            simp only [Option.bind_some, Array.getElem?_eq_none l1, Array.getElem?_eq_none l2]
      simp only [hy]
  have hpost : ∀ v w2, lift n D (obQ w' o.dst e) .normal ((actOf n D F).put o.dst v) w2 → Ext w' w2 ∧ e.p v w2 ∧ (e.fr = true → ∀ g, v = .pointer (some ⟨g, 0, none⟩) → w'.heap.size ≤ g) := by
    rintro v w2 ⟨ρ2, hm3, _, hx, s, hs, hp⟩
    rw [hdst] at hs
    obtain rfl : d = s := by simpa using hs
    have h3 := (hm2.put hdn v).get d
    rw [upd_same] at h3
    have h4 := hm3.get d
    rw [hdst, h3] at h4
    rw [h4]
    exact ⟨hx, hp⟩
  have hio : (all.toArray)[i]? = some o := by simpa using hi
  have hnl : ¬ LetsOut (lift n D (obQ w' o.dst e)) := by
    rintro ⟨a0, w0, ρ0, _, h0, _⟩
    cases h0
  unfold wpOp
  simp only [hio, hw]
  unfold wpList at h2
  cases hwd : Region.wanted o (yielded all.toArray (actOf n D F).tmps) with
  | true =>
    simp only [hwd, if_true] at h2 ⊢
    rcases h2 with h2 | ⟨_, h2⟩
    · left
      unfold Oper.wp at h2 ⊢
      rw [hev]
      refine upon_conv (fun v w2 hk => ?_) (fun dd v w2 hk => ?_) (fun c a0 w0 hc => ?_) hnl h2
      · obtain ⟨h5, h6, h7⟩ := hpost v w2 hk
        exact hK v w2 h5 h6 h7
      · obtain ⟨ρ2, hm3, _⟩ := hk
        have := hm3.defers
        have h9 : (actOf n D F).defers = D := rfl
        cases hdd : o.dst <;> simp [hdd, Act.put, h9] at this
      · obtain ⟨ρ0, _, h0, _⟩ := hc
        cases h0
    · exact (hnl h2).elim
  | false =>
    simp only [hwd, Bool.false_eq_true, if_false] at h2 ⊢
    obtain ⟨h5, h6, h7⟩ := hpost undef w' h2
    exact hK undef w' h5 h6 h7

theorem wp_drawn {P : Program} {n : Nat} {Q : Post} {ρ : Fr} {w : World} {id : Nat} {l : List Oper} (t : Nat) (hmo : P.follows .mixedOrders = true) (hchk : drawOk l t = true)
    (h : Obs P n l ρ w (fun acc => ∀ x w', Ext w w' → allA x w' acc → distA x acc → WpR P n l Q (l.drop t) (frA ρ x acc) w') [] 0 (l.take t)) : Wp P n (.region id l.toArray true) Q ρ w := by
  simp only [drawOk, Bool.and_eq_true] at hchk
  obtain ⟨⟨⟨⟨⟨c1, c2⟩, c3⟩, c4⟩, c5⟩, c6⟩ := hchk
  have htl : t < l.length := Nat.le_of_ble_eq_true c3
  have htk : (l.take t).length = t := by rw [List.length_take]; omega
  obtain ⟨L, hL, hK, hO⟩ := obs_list _ _ _ h
  rw [htk] at hL
  simp only [List.append_nil] at hK hO
  have hget : ∀ k (hk : k < t), (l.take t)[k]'(by omega) = l[k] := fun k hk => by simp
  have hHd0 := headOk_list _ _ _ c1
  have hHd : ∀ k (hk : k < t), HOk (((List.range k).map fun j => (0 + j, ((l.take t)[j]?.bind (·.dst)))).reverse ++ []) (0 + k) ((l.take t)[k]'(by omega)) := fun k hk => hHd0 k (by omega)
  have hLt := lateOk_list _ c2
  unfold Wp
  intro hc D act hmt
  simp only [codeOk, List.all_eq_true] at hc
  refine wp_region_any hmo ?_
  have hw1 : Ext w { w with drawn := w.drawn + 1 } := ext_drew w
  have hsz : l.toArray.size = t + (l.length - t) := by simp; omega
  have hund : ∀ i, n ≤ i → ρ i = undef := fun i hi => by rw [← hmt.get i]; simp [Array.getD, hmt.size]; omega
  -- the slots of the head
  have hds : ∀ k (hk : k < t), ∃ d e, L[k]? = some (k, some d, e) ∧ l[k].dst = some d ∧ Nat.blt d n = true ∧ Ob P n l ρ w l[k] ((L.take k).reverse) e := by
    intro k hk
    obtain ⟨e, h1, h2⟩ := hO k (by omega)
    rw [Nat.zero_add] at h1
    obtain ⟨⟨d, hd, _⟩, _⟩ := hHd k hk
    rw [hget k hk] at h1 h2 hd
    rw [hd] at h1
    refine ⟨d, e, by simpa using h1, hd, ?_, h2⟩
    have := hc l[k] (by simp)
    simpa [dstOk, hd] using this
  have hapart : ∀ j k (hj : j < t) (hk : k < t) d, j < k → l[j].dst = some d → l[k].dst ≠ some d := by
    intro j k hj hk d hjk hd hd2
    obtain ⟨⟨d', hd', hne⟩, _⟩ := hHd k hk
    rw [hget k hk, hd2] at hd'
    obtain rfl : d = d' := by simpa using hd'
    refine hne (0 + j, ((l.take t)[j]?.bind (·.dst))) ?_ ?_
    · refine List.mem_append_left _ (List.mem_reverse.2 (List.mem_map.2 ⟨j, List.mem_range.2 hjk, rfl⟩))
    · rw [List.getElem?_eq_getElem (by omega)]
      simp only [Option.bind_some, hget j hj, hd]
  have huniq : ∀ j k (hj : j < t) (hk : k < t) d, l[j].dst = some d → l[k].dst = some d → j = k := by
    intro j k hj hk d h1 h2
    rcases Nat.lt_trichotomy j k with h | h | h
    · exact absurd h2 (hapart j k hj hk d h h1)
    · exact h
    · exact absurd h1 (hapart k j hk hj d h h2)
  -- the accumulated triples
  have hmem : ∀ m, m ≤ t → ∀ p ∈ (L.take m).reverse, ∃ k, ∃ hk : k < t, k < m ∧ p.1 = k ∧ p.2.1 = l[k].dst ∧ L[k]? = some p := by
    intro m hm p hp
    rw [List.mem_reverse] at hp
    obtain ⟨k, hk, hpk⟩ := List.mem_iff_getElem.1 hp
    simp only [List.length_take] at hk
    have hkt : k < t := by omega
    have h1 : L[k]? = some p := by
      rw [List.getElem_take] at hpk
      rw [← hpk]
      exact List.getElem?_eq_getElem (by omega)
    obtain ⟨d, e, h2, h3, _⟩ := hds k hkt
    have h4 := h1.symm.trans h2
    simp only [Option.some.injEq] at h4
    exact ⟨k, hkt, by omega, by rw [h4], by rw [h4, h3], h1⟩
  have hin : ∀ m, m ≤ t → ∀ k (hk : k < t), k < m → ∀ q, L[k]? = some q → q ∈ (L.take m).reverse := by
    intro m hm k hk hkm q hq
    rw [List.mem_reverse]
    refine List.mem_of_getElem? (i := k) ?_
    rw [List.getElem?_take, if_pos hkm]
    exact hq
  -- the invariant
  let Inv : Array Bool → Act → World → Prop := fun listed a w' => ∃ ρ', Mt n D a ρ' ∧ Ext w w' ∧ (∀ s, (∀ k (hk : k < t), l[k].dst ≠ some s) → ρ' s = ρ s) ∧
    (∀ k, k < t → listed.getD k false = true → ∀ d e, L[k]? = some (k, some d, e) → e.p (ρ' d) w') ∧
    (∀ j k, j < t → k < t → j ≠ k → listed.getD j false = true → listed.getD k false = true → ∀ d e d' e', L[j]? = some (j, some d, e) → L[k]? = some (k, some d', e') → e.fr = true → e'.fr = true → ρ' d ≠ ρ' d')
  have fin : ∀ listed a w', HeadInv .any l.toArray t listed → unl listed t = 0 → Inv listed a w' → wpAny P .any l.toArray (lift n D Q) (l.length - t) listed a w' := by
    rintro listed a w' inv h0 ⟨ρ', hm', hx, hout, hp, hdst⟩
    have hz := unl_zero h0
    have hcan : listed = canonListed t l.length := by
      refine Array.ext (by rw [inv.size]; simp [canonListed]) fun i h1 h2 => ?_
      have hsz2 := inv.size
      have hil : i < l.length := by simpa [hsz2] using h1
      by_cases hit : i < t
      · have h3 := hz i hit
        simp only [Array.getD, h1, dite_true] at h3
        have h4 : listed[i] = true := h3
        simp [canonListed, h4, hit]
      · have h3 := inv.tail i (by omega) (by simpa using hil)
        simp only [Array.getD, h1, dite_true] at h3
        have h4 : listed[i] = false := h3
        simp [canonListed, h4]
        omega
    have hall : ∀ k, k < t → ∀ d e, L[k]? = some (k, some d, e) → e.p (ρ' d) w' := fun k hk => hp k hk (hz k hk)
    have hF : frA ρ (fun k => match L[k]? with | some (_, some d, _) => ρ' d | _ => undef) L.reverse = ρ' := by
      funext s
      by_cases hs : ∃ k, ∃ hk : k < t, l[k].dst = some s
      · obtain ⟨k, hk, hd⟩ := hs
        obtain ⟨d, e, h1, h2, _⟩ := hds k hk
        rw [hd] at h2
        obtain rfl : s = d := by simpa using h2
        have hfull : L.take t = L := List.take_of_length_le (by omega)
        have hi1 := hin t (Nat.le_refl _) k hk hk _ h1
        rw [hfull] at hi1
        rw [frA_in hi1 ?_]
        · simp only [h1]
          have := hall k hk s e h1
          cases hX : e.X with
          | none => rfl
          | some Y => simp only [Option.getD_some]; exact (e.hX _ _ _ this hX).symm
        · intro p hp' hps
          rw [← hfull] at hp'
          obtain ⟨j, hj, _, h3, h4, h5⟩ := hmem t (Nat.le_refl _) p hp'
          rw [hps] at h4
          have := huniq j k hj hk s h4.symm hd
          subst this
          have := h5.symm.trans h1
          simpa using this
      · have hs' : ∀ k (hk : k < t), l[k].dst ≠ some s := fun k hk hd => hs ⟨k, hk, hd⟩
        rw [frA_out, hout s hs']
        intro p hp' hps
        have hfull : L.take t = L := List.take_of_length_le (by omega)
        rw [← hfull] at hp'
        obtain ⟨j, hj, _, h3, h4, h5⟩ := hmem t (Nat.le_refl _) p hp'
        exact hs' j hj (by rw [← h4, hps])
    have hrun := hK (fun k => match L[k]? with | some (_, some d, _) => ρ' d | _ => undef) w' hx (allA_of fun p hp' => by
      have hfull : L.take t = L := List.take_of_length_le (by omega)
      rw [← hfull] at hp'
      obtain ⟨j, hj, _, h3, h4, h5⟩ := hmem t (Nat.le_refl _) p hp'
      obtain ⟨d, e, h1, h2, _⟩ := hds j hj
      have h6 := h5.symm.trans h1
      simp only [Option.some.injEq] at h6
      subst h6
      simp only [h1]
      have h7 := hall j hj d e h1
      cases hX : e.X with
      | none => exact h7
      | some Y => exact e.hY _ _ hX) (distA_of (by
      rw [List.pairwise_reverse, List.pairwise_iff_getElem]
      intro i j hi hj hij he1 he2
      obtain ⟨di, ei, h1, _⟩ := hds i (by omega)
      obtain ⟨dj, ej, h2, _⟩ := hds j (by omega)
      have g1 := List.getElem?_eq_getElem hi
      have g2 := List.getElem?_eq_getElem hj
      rw [h1] at g1
      rw [h2] at g2
      simp only [Option.some.injEq] at g1 g2
      rw [← g1] at he2
      rw [← g2] at he1
      rw [← g1, ← g2]
      have hne := hdst j i (by omega) (by omega) (by omega) (hz j (by omega)) (hz i (by omega)) dj ej di ei h2 h1 he1 he2
      have val : ∀ (k d : Nat) (e : Ent), k < t → L[k]? = some (k, some d, e) → e.X.getD ((fun k => match L[k]? with | some (_, some d, _) => ρ' d | _ => undef) k) = ρ' d := by
        intro k d e hk hk2
        have h7 := hall k hk d e hk2
        cases hX : e.X with
        | none => simp only [Option.getD_none, hk2]
        | some Y => simp only [Option.getD_some]; exact (e.hX _ _ _ h7 hX).symm
      have v1 := val i di ei (by omega) h1
      have v2 := val j dj ej (by omega) h2
      intro e0
      exact hne (v2.symm.trans (e0.trans v1))))
    rw [hF] at hrun
    unfold WpR at hrun
    have hlen : (l.drop t).length = l.length - t := by simp
    rw [← hlen]
    refine wpAny_of_seq (l.drop t) t listed a w' (fun j => by simp) ?_ (hrun ?_ _ a hm')
    · rw [hcan, hlen]; exact c6
    · rw [List.all_eq_true]
      intro o ho
      exact hc o (by simpa using List.mem_of_mem_drop ho)
  have key : ∀ f listed a w', HeadInv .any l.toArray t listed → unl listed t = f → Inv listed a w' → wpAny P .any l.toArray (lift n D Q) (f + (l.length - t)) listed a w' := by
    intro f
    induction f with
    | zero => intro listed a w' inv h0 hI; rw [Nat.zero_add]; exact fin listed a w' inv h0 hI
    | succ f ih =>
      intro listed a w' inv hf hI
      rw [show f + 1 + (l.length - t) = (f + (l.length - t)) + 1 by omega]
      obtain ⟨i0, hi0, hl0, hlow⟩ := unl_least (show unl listed t ≠ 0 by omega)
      have hsz2 := inv.size
      have hsz3 : listed.size = l.length := by simpa using hsz2
      have hr0 : i0 ∈ Region.ready .any l.toArray listed := by
        rw [mem_ready]
        refine ⟨getD_in (by omega) hl0, l[i0], by simp, fun e he hb => hlow _ ?_⟩
        have := (hHd i0 hi0).low e (by rw [hget i0 hi0]; exact he) hb
        omega
      refine ⟨fun he => absurd (he ▸ hr0) (by simp), fun i hi => ?_⟩
      have hit : i < t := by
        rcases Nat.lt_or_ge i t with h | h
        · exact h
        · exact absurd hi (tail_waits c4 c5 (by simpa using htl) inv _ i0 rfl hi0 (mem_ready.1 hr0).1 i h)
      obtain ⟨hun, oi, hoi, hdep⟩ := mem_ready.1 hi
      have hoi' : l[i] = oi := by simpa [hit, show i < l.length by omega] using hoi
      obtain ⟨ρ', hm', hx, hout, hp, hdst⟩ := hI
      obtain ⟨d, e, h1, h2, h3, h4⟩ := hds i hit
      have hH := hHd i hit
      rw [hget i hit] at hH
      let x : Nat → Value := fun k => match L[k]? with | some (_, some d, _) => ρ' d | _ => undef
      have hdl : ∀ k, hasEdge l[i].after.toList k = true → listed.getD k false = true := by
        intro k hk
        obtain ⟨ed, h5, h6, h7⟩ := hasEdge_spec hk
        rw [← h7]
        exact hdep ed (by rw [← hoi']; exact Array.mem_toList_iff.1 h5) h6
      have hdep2 : depsA x w' l[i].after.toList ((L.take i).reverse) := depsA_of fun p hp' he => by
        obtain ⟨j, hj, hji, h5, h6, h7⟩ := hmem i (by omega) p hp'
        obtain ⟨d', e', h8, h9, _⟩ := hds j hj
        have h10 := h7.symm.trans h8
        simp only [Option.some.injEq] at h10
        subst h10
        have h11 := hp j hj (hdl j he) d' e' h8
        cases hX : e'.X with
        | none => simp only [x, h8, Option.getD_none]; exact h11
        | some Y => exact e'.hY _ _ hX
      have hF : ∀ s, (∀ k (hk : k < t), l[k].dst = some s → k < i ∧ listed.getD k false = true) → frA ρ x ((L.take i).reverse) s = ρ' s := by
        intro s hs
        by_cases hsx : ∃ k, ∃ hk : k < t, l[k].dst = some s
        · obtain ⟨k, hk, hd⟩ := hsx
          obtain ⟨hki, hkl⟩ := hs k hk hd
          obtain ⟨d', e', h8, h9, _⟩ := hds k hk
          rw [hd] at h9
          obtain rfl : s = d' := by simpa using h9
          rw [frA_in (hin i (by omega) k hk hki _ h8) ?_]
          · have h11 := hp k hk hkl s e' h8
            cases hX : e'.X with
            | none => simp only [x, h8, Option.getD_none]
            | some Y => simp only [Option.getD_some]; exact (e'.hX _ _ _ h11 hX).symm
          · intro p hp' hps
            obtain ⟨j, hj, _, h5, h6, h7⟩ := hmem i (by omega) p hp'
            rw [hps] at h6
            have := huniq j k hj hk s h6.symm hd
            subst this
            simpa using h7.symm.trans h8
        · have hs' : ∀ k (hk : k < t), l[k].dst ≠ some s := fun k hk hd => hsx ⟨k, hk, hd⟩
          rw [frA_out, hout s hs']
          intro p hp' hps
          obtain ⟨j, hj, _, h5, h6, h7⟩ := hmem i (by omega) p hp'
          exact hs' j hj (by rw [← h6, hps])
      have hoil : l[i]? = some l[i] := List.getElem?_eq_getElem (by omega)
      have hslot : ∀ k (hk : k < t) s, l[k].dst = some s → s ∈ operTmps l[i] → k < i ∧ listed.getD k false = true := by
        intro k hk s hks hso
        have hki : k < i := by
          rcases Nat.lt_or_ge k i with h | h
          · exact h
          · have := hLt i k (by omega) (by omega) h s (by rw [hget k hk]; exact hks)
            rw [hget i hit] at this
            exact absurd hso this
        have h5 := hH.deps (0 + k, ((l.take t)[k]?.bind (·.dst))) (List.mem_append_left _ (List.mem_reverse.2 (List.mem_map.2 ⟨k, List.mem_range.2 hki, rfl⟩))) s (by
          rw [List.getElem?_eq_getElem (by omega)]
          simp only [Option.bind_some, hget k hk, hks])
        rcases h5 with h5 | h5
        · exact ⟨hki, hdl k (by simpa using h5)⟩
        · exact absurd hso h5.1
      refine one_op (o := l[i]) (e := e) (ρ' := ρ') (F := frA ρ x ((L.take i).reverse)) hoil h2 h3 hH.sel ?_ hm' ?_ ?_ (h4 x w' hx hdep2) ?_
      · intro k hk
        rw [frA_out, hund k hk]
        intro p hp' hps
        obtain ⟨j, hj, _, h5, h6, h7⟩ := hmem i (by omega) p hp'
        obtain ⟨d', e', h8, h9, h10, _⟩ := hds j hj
        rw [hps] at h6
        rw [← h6] at h9
        obtain rfl : k = d' := by simpa using h9
        have := Nat.le_of_ble_eq_true h10
        omega
      · intro s hs
        exact hF s fun k hk hks => hslot k hk s hks hs
      · intro g b hgd s hs
        refine hF s fun k hk hks => ?_
        have hgi := hH.guard g b hgd
        have hgt : g < t := by omega
        have hgs : l[g].dst = some s := by
          unfold dstAt at hs
          rw [List.getElem?_eq_getElem (by omega)] at hs
          simpa using hs
        obtain rfl := huniq k g hk hgt s hks hgs
        have h5 := hH.deps (0 + k, ((l.take t)[k]?.bind (·.dst))) (List.mem_append_left _ (List.mem_reverse.2 (List.mem_map.2 ⟨k, List.mem_range.2 (by omega), rfl⟩))) s (by
          rw [List.getElem?_eq_getElem (by omega)]
          simp only [Option.bind_some, hget k hk, hks])
        rcases h5 with h5 | h5
        · exact ⟨by omega, hdl k (by simpa using h5)⟩
        · exact absurd (by omega) (h5.2 k b hgd)
      · intro v w2 hx2 hev hfv
        refine ih _ _ _ (inv.set hi hit) ?_ ⟨upd ρ' d v, ?_, hx.trans hx2, ?_, ?_, ?_⟩
        · rw [unl_set (by omega) (getD_both hun), if_pos hit]; omega
        · rw [h2]; exact hm'.put h3 v
        · intro s hs
          rw [upd_ne, hout s hs]
          cases hb : Nat.beq s d with
          | false => rfl
          | true => exact absurd (by rw [Nat.eq_of_beq_eq_true hb]; exact h2) (hs i hit)
        · intro k hk hkl d' e' h8
          obtain ⟨d2, e2, h9, h10, _⟩ := hds k hk
          have h11 := h8.symm.trans h9
          simp only [Option.some.injEq, Prod.mk.injEq, true_and] at h11
          obtain ⟨rfl, rfl⟩ := h11
          by_cases hki : i = k
          · subst hki
            have h12 := h8.symm.trans h1
            simp only [Option.some.injEq, Prod.mk.injEq, true_and] at h12
            obtain ⟨rfl, rfl⟩ := h12
            rw [upd_same]
            exact hev
          · rw [getD_set_ne false hki] at hkl
            have hne : Nat.beq d' d = false := by
              cases hb : Nat.beq d' d with
              | false => rfl
              | true =>
                have := Nat.eq_of_beq_eq_true hb
                subst this
                exact absurd (huniq k i hk hit d' h10 h2) (fun e => hki e.symm)
            rw [upd_ne hne]
            exact e'.keep _ _ _ (hp k hk hkl d' e' h8) hx2
        · have slotd : ∀ k d' e', k < t → L[k]? = some (k, some d', e') → k ≠ i → Nat.beq d' d = false := by
            intro k d' e' hk h8 hki
            obtain ⟨d2, e2, h9, h10, _⟩ := hds k hk
            have h11 := h8.symm.trans h9
            simp only [Option.some.injEq, Prod.mk.injEq, true_and] at h11
            obtain ⟨rfl, rfl⟩ := h11
            cases hb : Nat.beq d' d with
            | false => rfl
            | true =>
              have := Nat.eq_of_beq_eq_true hb
              subst this
              exact absurd (huniq k i hk hit d' h10 h2) hki
          intro j k hj hk hjk hjl hkl dj ej dk ek h8 h9 hf1 hf2
          by_cases hji : j = i
          · subst hji
            have h12 := h8.symm.trans h1
            simp only [Option.some.injEq, Prod.mk.injEq, true_and] at h12
            obtain ⟨rfl, rfl⟩ := h12
            rw [upd_same, upd_ne (slotd k dk ek hk h9 (fun x => hjk x.symm))]
            rw [getD_set_ne false hjk] at hkl
            intro hne
            obtain ⟨g, hg1, hg2⟩ := ek.hfr hf2 _ _ (hp k hk hkl dk ek h9)
            rw [hg1] at hne
            have := hfv hf1 g hne
            omega
          · by_cases hki : k = i
            · subst hki
              have h12 := h9.symm.trans h1
              simp only [Option.some.injEq, Prod.mk.injEq, true_and] at h12
              obtain ⟨rfl, rfl⟩ := h12
              rw [upd_same, upd_ne (slotd j dj ej hj h8 hji)]
              rw [getD_set_ne false (fun x => hji x.symm)] at hjl
              intro hne
              obtain ⟨g, hg1, hg2⟩ := ej.hfr hf1 _ _ (hp j hj hjl dj ej h8)
              rw [hg1] at hne
              have := hfv hf2 g hne.symm
              omega
            · rw [upd_ne (slotd j dj ej hj h8 hji), upd_ne (slotd k dk ek hk h9 hki)]
              rw [getD_set_ne false (fun x => hji x.symm)] at hjl
              rw [getD_set_ne false (fun x => hki x.symm)] at hkl
              exact hdst j k hj hk hjk hjl hkl dj ej dk ek h8 h9 hf1 hf2
  have hs := key t (Array.replicate l.toArray.size false) act { w with drawn := w.drawn + 1 }
    ⟨by simp, fun j oj _ hl => (by rw [getD_replicate_false] at hl; cases hl), fun k _ hk => getD_in (by simpa using hk) (getD_replicate_false _ _)⟩
    (unl_new _ _ (by simp; omega)) ⟨ρ, hmt, hw1, fun _ _ => rfl, fun k _ hk => (by rw [getD_replicate_false] at hk; cases hk), fun j k _ _ _ hj => (by rw [getD_replicate_false] at hj; cases hj)⟩
  rwa [← hsz] at hs

section
variable {P : Program} {n : Nat} {all r : List Oper} {ρ : Fr} {w : World} {K : Acc → Prop} {acc : Acc} {i : Nat} {o : Oper}
theorem ob_step {e : Ent} (h1 : ∀ x w', Ext w w' → depsA x w' o.after.toList acc → WpR P n all (obQ w' o.dst e) [o] (frA ρ x acc) w')
    (h2 : Obs P n all ρ w K ((i, o.dst, e) :: acc) (i + 1) r) : Obs P n all ρ w K acc i (o :: r) := ⟨e, h1, h2⟩
theorem ob_nil (h : K acc) : Obs P n all ρ w K acc i [] := h
theorem ob_eq {F : Fr} {d : Nat} {v : Value} : obQ w (some d) (Ent.eq v) .normal (upd F d v) w := ⟨rfl, .refl, d, rfl, upd_same _ _ _, fun h => by cases h⟩
theorem ob_of {F : Fr} {d : Nat} {v : Value} {w' : World} {p : Value → World → Prop} {h : ∀ v w w', p v w → Ext w w' → p v w'} (hx : Ext w w') (hp : p v w') :
    obQ w (some d) (Ent.of p h) .normal (upd F d v) w' := ⟨rfl, hx, d, rfl, by show p _ _; rw [upd_same]; exact hp, fun h => by cases h⟩
theorem ob_new {F : Fr} {d g b : Nat} {T : TypeId} {cs : List Value} {w' : World} (hx : Ext w w') (hb : Blk w' g T cs) (hg : w.heap.size ≤ g) (hbg : b ≤ w.heap.size) :
    obQ w (some d) (Ent.new b T cs) .normal (upd F d (.pointer (some ⟨g, 0, none⟩))) w' :=
  ⟨rfl, hx, d, rfl, ⟨g, upd_same _ _ _, hb, by omega⟩, fun _ g' h => by rw [upd_same] at h; simp only [Value.pointer.injEq, Option.some.injEq, Addr.mk.injEq] at h; omega⟩
theorem ob_end {l : List Oper} {Q : Post} (h : ∀ x w', Ext w w' → allA x w' acc → WpR P n l Q r (frA ρ x acc) w') : ∀ x w', Ext w w' → allA x w' acc → distA x acc → WpR P n l Q r (frA ρ x acc) w' := fun x w' a b _ => h x w' a b
theorem ob_endF {l : List Oper} {Q : Post} (h : ∀ x w', Ext w w' → allA x w' acc → distA x acc → WpR P n l Q r (frA ρ x acc) w') : ∀ x w', Ext w w' → allA x w' acc → distA x acc → WpR P n l Q r (frA ρ x acc) w' := h
end
end
end Go.Proofs.YtpmnjjmngogkkaaGreatDoor

/- Lists of fractions in memory; calls through interfaces; loops that are written out. -/
import Derived.Test.YtpmnjjmngogkkaaGreatDoorTry
set_option linter.unusedVariables false
set_option linter.unusedSimpArgs false
namespace Go.Proofs.YtpmnjjmngogkkaaGreatDoor
open Go Go.RowKit

abbrev Tri := Value × Value × Value
/-- The cells of a list of three-celled values. -/
def flat : List Tri → List Value
  | [] => []
  | (a, b, c) :: r => a :: b :: c :: flat r
def Tri.val (t : Tri) : Value := .agg #[t.1, t.2.1, t.2.2]
theorem flat_length (l : List Tri) : (flat l).length = 3 * l.length := by
  induction l with
  | nil => rfl
  | cons t r ih => obtain ⟨a, b, c⟩ := t; simp only [flat, List.length_cons, ih]; omega
theorem flat_append (a b : List Tri) : flat (a ++ b) = flat a ++ flat b := by
  induction a with
  | nil => rfl
  | cons t r ih => obtain ⟨x, y, z⟩ := t; simp only [List.cons_append, flat, ih]
theorem flat_at : ∀ {l : List Tri} {j : Nat} {t : Tri}, l[j]? = some t → ((flat l).drop (3 * j)).take 3 = [t.1, t.2.1, t.2.2] := by
  intro l
  induction l with
  | nil => intro j t h; simp at h
  | cons s r ih =>
    intro j t h
    obtain ⟨a, b, c⟩ := s
    cases j with
    | zero =>
      simp only [List.getElem?_cons_zero, Option.some.injEq] at h
      subst h
      rfl
    | succ j =>
      rw [show 3 * (j + 1) = (((3 * j) + 1) + 1) + 1 by omega]
      simp only [flat, List.drop_succ_cons]
      exact ih (by simpa using h)
theorem flat_set : ∀ {l : List Tri} {j : Nat} {t : Tri}, j < l.length → (flat l).take (3 * j) ++ [t.1, t.2.1, t.2.2] ++ (flat l).drop (3 * j + 3) = flat (l.set j t) := by
  intro l
  induction l with
  | nil => intro j t h; simp at h
  | cons s r ih =>
    intro j t h
    obtain ⟨a, b, c⟩ := s
    cases j with
    | zero => rfl
    | succ j =>
      have h1 := ih (j := j) (t := t) (by simpa using h)
      rw [show 3 * (j + 1) = (((3 * j) + 1) + 1) + 1 by omega]
      simp only [flat, List.take_succ_cons, List.cons_append, List.set_cons_succ]
      rw [show 3 * j + 1 + 1 + 1 + 3 = (((3 * j + 3) + 1) + 1) + 1 by omega]
      simp only [List.drop_succ_cons]
      rw [← h1]

section rules
variable {P : Program} {n : Nat} {Q : Post} {ρ : Fr} {w : World} {all rest : List Oper} {d : Tmp} {ty : TypeId} {pos : String} {aft : Array Edge}
theorem r_load_tri {t : TypeId} {b : Nat} {z : Value} [ti : TyI P t 3 b z true] {x : Operand} {g o : Nat} {T : TypeId} {l : List Tri} {u : Tri} (j : Nat)
    (hx : ev ρ x = .pointer (some ⟨g, o, none⟩)) (ho : o = 3 * j) (hb : Blk w g T (flat l)) (hu : l[j]? = some u) (h : WpR P n all Q rest (upd ρ d u.val) w) :
    WpR P n all Q (⟨some d, .load t x, ty, pos, aft, none⟩ :: rest) ρ w := by
  subst ho
  exact r_load_part hx hb (flat_at hu) rfl h
theorem r_store_tri {t : TypeId} {b : Nat} {z : Value} {agg : Bool} [ti : TyI P t 3 b z agg] {x y : Operand} {g o : Nat} {T : TypeId} {l : List Tri} {u : Tri} (j : Nat)
    (hx : ev ρ x = .pointer (some ⟨g, o, none⟩)) (ho : o = 3 * j) (hy : ev ρ y = u.val) (hb : Blk w g T (flat l)) (hj : j < l.length) (h1 : u.1.oneCell' = true) (h2 : u.2.1.oneCell' = true) (h3 : u.2.2.oneCell' = true)
    (h : ∀ w', Wrt g w w' → Blk w' g T (flat (l.set j u)) → WpR P n all Q rest ρ w') : WpR P n all Q (⟨none, .store t x y, ty, pos, aft, none⟩ :: rest) ρ w := by
  subst ho
  have hfl := flat_length l
  have h4 := run_storeCells_at P g (3 * j) T [u.1, u.2.1, u.2.2] 0 (flat l).toArray w hb (by simp; omega) (ones3 h1 h2 h3)
  have e : ((flat l).toArray.toList.take (3 * j + 0) ++ [u.1, u.2.1, u.2.2] ++ (flat l).toArray.toList.drop (3 * j + 0 + [u.1, u.2.1, u.2.2].length)).toArray = (flat (l.set j u)).toArray := by
    rw [← flat_set (t := u) hj]
    rfl
  rw [e] at h4
  refine r_skipw (w' := w.setRow g (flat (l.set j u)).toArray) rfl rfl ?_ (h _ ?_ (setRow_heap w g _ _ T (0, 0) hb))
  · simp [execOp, hx, hy, Instr.storeAt, Instr.sureAddr, storeVar, ti.runSize w, Tri.val, Value.cells, h4]
  · exact ⟨rfl, rfl, rfl, by simp [World.setRow], fun k _ hk => setRow_other w g k _ hk⟩
theorem r_invoke {T : TypeId} {f : FuncId} [ci : CallI P f] {x : Operand} {nm : String} {v : Value} {l : List Operand} {ts : Array TypeId} {args : List Value} {Ψ : Value → World → Prop}
    (hm : ∀ v w, (method (P.types.size + Made.depth) T v nm).run P w = .ok (f, v) w) (hx : ev ρ x = .iface T v) (hc : Gives P f args w Ψ) (ha : v :: l.map (ev ρ) = args)
    (h : ∀ v w', Ψ v w' → WpR P n all Q rest (upd ρ d v) w') : WpR P n all Q (⟨some d, .call ⟨.invoke x nm, l.toArray, ts⟩, ty, pos, aft, none⟩ :: rest) ρ w := by
  refine r_step rfl ?_
  have hr : (execOp (ev ρ) ⟨some d, .call ⟨.invoke x nm, l.toArray, ts⟩, ty, pos, aft, none⟩).run P w = .ok (.enter f args.toArray) w := by
    subst ha
    have e : (callMethod (.iface T v) nm (l.map (ev ρ)).toArray).run P w = .ok (.enter f (v :: l.map (ev ρ)).toArray) w := by
      simp [callMethod, hm, ci.run]
    have e2 : (#[Value.iface T v] ++ (l.map (ev ρ)).toArray).extract 1 (#[Value.iface T v] ++ (l.map (ev ρ)).toArray).size = (l.map (ev ρ)).toArray := by
      apply Array.ext'
      simp
      exact List.take_of_length_le (by simp)
    simp [execOp, resolve, invoke, hx] at e e2 ⊢
    rw [List.take_of_length_le (by simp), e]
  unfold Stp
  rw [hr]
  exact hc.mono h
end rules
/-- A frame of which only some slots are known. -/
def updL (u : Fr) : List (Nat × Value) → Fr
  | [] => u
  | (i, v) :: r => upd (updL u r) i v
def okL (ρ : Fr) : List (Nat × Value) → Prop
  | [] => True
  | (i, v) :: r => ρ i = v ∧ okL ρ r
theorem updL_self {ρ : Fr} : ∀ {l : List (Nat × Value)}, okL ρ l → updL ρ l = ρ
  | [], _ => rfl
  | (i, v) :: r, ⟨h, hr⟩ => by rw [updL, updL_self hr, upd_self h]
theorem wp_fresh {P : Program} {n : Nat} {c : Code} {Q : Post} {ρ : Fr} {w : World} (l : List (Nat × Value)) (h : okL ρ l) (k : ∀ u, Wp P n c Q (updL u l) w) : Wp P n c Q ρ w := by
  have := k ρ
  rwa [updL_self h] at this
/-- A loop that ends within k rounds. -/
def Unr (P : Program) (n : Nat) (c : Code) (Q : Post) : Nat → Fr → World → Prop
  | 0, _, _ => False
  | k + 1, ρ, w => Wp P n c (thenQ (fun ρ w => Unr P n c Q k ρ w) Q) ρ w
theorem unr_step {P : Program} {n : Nat} {c : Code} {Q : Post} {k : Nat} {ρ : Fr} {w : World} (h : Wp P n c (thenQ (fun ρ w => Unr P n c Q k ρ w) Q) ρ w) : Unr P n c Q (k + 1) ρ w := h
theorem unr_loop {P : Program} {n : Nat} {c : Code} {Q : Post} {k : Nat} {ρ : Fr} {w : World} (h : Unr P n c Q k ρ w) : Wp P n (.loop c) Q ρ w := by
  have key : ∀ k ρ w, Unr P n c Q k ρ w → codeOk n c = true → ∀ D act, Mt n D act ρ → ∀ b K cs, ∃ e a' w', lift n D Q e a' w' ∧ Arrives P (lone (b.at act (.code c :: .inLoop c :: K)) cs w) b K cs e a' w' := by
    intro k
    induction k with
    | zero => intro ρ w h; exact h.elim
    | succ k ih =>
      intro ρ w h hc D act hm b K cs
      have h' : Wp P n c (thenQ (fun ρ w => Unr P n c Q k ρ w) Q) ρ w := h
      unfold Wp at h'
      obtain ⟨e, a₁, w₁, ⟨ρ₁, hm₁, hq⟩, harr⟩ := h' hc D act hm b (.inLoop c :: K) cs
      cases e with
      | normal =>
        obtain ⟨e₂, a₂, w₂, hq₂, harr₂⟩ := ih ρ₁ w₁ hq hc D a₁ hm₁ b K cs
        exact ⟨e₂, a₂, w₂, hq₂, .of_steps (Steps.trans harr (.one step_inLoop)) harr₂⟩
      | exit id => exact ⟨_, a₁, w₁, ⟨ρ₁, hm₁, hq⟩, .pass (x := .inLoop c) rfl (fun _ _ => .inl (by simp)) harr⟩
      | goto l => exact ⟨_, a₁, w₁, ⟨ρ₁, hm₁, hq⟩, .pass (x := .inLoop c) rfl (fun _ _ => .inl (by simp)) harr⟩
      | ret => exact ⟨_, a₁, w₁, ⟨ρ₁, hm₁, hq⟩, .pass (x := .inLoop c) rfl (fun _ _ => .inl (by simp)) harr⟩
      | panic ch => exact ⟨_, a₁, w₁, ⟨ρ₁, hm₁, hq⟩, .pass (x := .inLoop c) rfl (fun _ _ => .inl (by simp)) harr⟩
      | outgrown => exact ⟨_, a₁, w₁, ⟨ρ₁, hm₁, hq⟩, .pass (x := .inLoop c) rfl (fun _ _ => .inl (by simp)) harr⟩
  unfold Wp
  intro hc D act hm b K cs
  obtain ⟨e, a', w', hq, harr⟩ := key k ρ w h hc D act hm b K cs
  exact ⟨e, a', w', hq, .of_steps (.one step_loop) harr⟩
theorem unr_for {P : Program} {n : Nat} {c : Code} {Q : Post} {ρ : Fr} {w : World} {i : Nat} (k : Nat) (h : Unr P n c (blockQ i Q) k ρ w) : Wp P n (.block i (.loop c)) Q ρ w := wp_block (unr_loop h)
attribute [irreducible] Unr

/-- The fractions that the three-celled values are. -/
def Rats (S : Nat → Prop) (w : World) : List Tri → List Rat → Prop
  | [], [] => True
  | t :: r, q :: l => RatV S w t.val q ∧ Rats S w r l
  | _, _ => False
theorem Rats.keep {S : Nat → Prop} {w w' : World} (k : Keeps S w w') : ∀ {ts : List Tri} {l : List Rat}, Rats S w ts l → Rats S w' ts l
  | [], [], _ => trivial
  | _ :: _, _ :: _, ⟨h1, h2⟩ => ⟨h1.keep k, Rats.keep k h2⟩
theorem Rats.to {S : Nat → Prop} {w w' : World} (k : Ext w w') {ts : List Tri} {l : List Rat} (h : Rats S w ts l) : Rats S w' ts l := h.keep (.of k)
theorem Rats.length {S : Nat → Prop} {w : World} : ∀ {ts : List Tri} {l : List Rat}, Rats S w ts l → ts.length = l.length
  | [], [], _ => rfl
  | _ :: _, _ :: _, ⟨_, h2⟩ => by simp [h2.length]
theorem Rats.get {S : Nat → Prop} {w : World} : ∀ {ts : List Tri} {l : List Rat} {j : Nat} {q : Rat}, Rats S w ts l → l[j]? = some q → ∃ t, ts[j]? = some t ∧ RatV S w t.val q
  | [], [], j, q, _, h => by simp at h
  | t :: _, _ :: _, 0, q, ⟨h1, _⟩, h => ⟨t, rfl, by simp at h; subst h; exact h1⟩
  | _ :: _, _ :: _, j + 1, q, ⟨_, h2⟩, h => by simpa using h2.get (by simpa using h)
theorem RatV.tri {S : Nat → Prop} {w : World} {v : Value} {q : Rat} (h : RatV S w v q) : ∃ t : Tri, v = t.val ∧ RatV S w t.val q ∧ t.1.oneCell' = true ∧ t.2.1.oneCell' = true ∧ t.2.2.oneCell' = true := by
  have h0 := h
  obtain ⟨m, b, rfl, hm, hb⟩ := h
  exact ⟨(_, m, b), rfl, h0, rfl, hm.one, hb.one⟩
theorem meth_sign : ∀ v w, (method (Tryz.prog.types.size + Made.depth) 34 v "Sign").run Tryz.prog w = .ok (19, v) w := fun v w => by kernel_rfl
theorem meth_times : ∀ v w, (method (Tryz.prog.types.size + Made.depth) 34 v "rabbet/frac.times").run Tryz.prog w = .ok (108, v) w := fun v w => by kernel_rfl
theorem meth_minus : ∀ v w, (method (Tryz.prog.types.size + Made.depth) 34 v "rabbet/frac.minus").run Tryz.prog w = .ok (107, v) w := fun v w => by kernel_rfl
end Go.Proofs.YtpmnjjmngogkkaaGreatDoor

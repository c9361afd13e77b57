/- Functions with one deferred closure. It holds for every program. -/
import Derived.Test.YtpmnjjmngogkkaaGreatDoorPanic
set_option linter.unusedVariables false
set_option linter.unusedSimpArgs false
namespace Go.Proofs.YtpmnjjmngogkkaaGreatDoor
open Go Go.RowKit

/-- A deferred closure's contract, by how the frame that it was deferred in leaves. -/
def GivesD (P : Program) (f : FuncId) (args : List Value) (u : FrameMode) (w : World) (Φ : FrameMode → World → Prop) : Prop :=
  CallsD P f args.toArray u w fun e u' w' => (∃ v, e = .returned v) ∧ Φ u' w'
/-- How a body whose frame has one deferred closure ends. -/
def defQ (P : Program) (fn : Func) (Ψ : Value → World → Prop) (g : FuncId) (caps : List Value) : Post := fun e ρ w => match e with
  | .normal | .ret => GivesD P g caps .returning w fun u' w' => u' = .returning ∧ ∃ vs, resAll P ρ w' fn.results.toList vs ∧ Ψ (shut vs) w'
  | .panic ch => GivesD P g caps (.panicking ch) w fun u' w' => settle u' = .returning ∧ ∃ vs, resAll P ρ w' fn.results.toList vs ∧ Ψ (shut vs) w'
  | _ => False
def WpD (P : Program) (n : Nat) (c : Code) (Q : Exit → Act → World → Prop) (D : List Deferred) (ρ : Fr) (w : World) : Prop :=
  codeOk n c = true → ∀ a, Mt n D a ρ → c.wp P Q a w
def onlyQ : Post := fun _ _ _ => False
section
variable {P : Program} {n : Nat} {Q : Exit → Act → World → Prop} {D : List Deferred} {ρ : Fr} {w : World}
theorem wpD_seq {a b : Code} (h : Wp P n a (thenQ (fun ρ w => WpD P n b Q D ρ w) onlyQ) ρ w) : WpD P n (.seq a b) Q D ρ w := by
  intro hc act hm
  simp only [codeOk, Bool.and_eq_true] at hc
  unfold Wp at h
  refine Go.wp_seq (Go.wp_mono (h hc.1 _ act hm) ?_)
  rintro e a' w' ⟨ρ', hm', hq⟩
  cases e with
  | normal => exact hq hc.2 a' hm'
  | _ => exact hq.elim
theorem wpD_end {c : Code} {Q' : Post} (h : Wp P n c Q' ρ w) (k : ∀ e a ρ w, Mt n D a ρ → Q' e ρ w → Q e a w) : WpD P n c Q D ρ w := by
  intro hc act hm
  unfold Wp at h
  refine Go.wp_mono (h hc _ act hm) ?_
  rintro e a' w' ⟨ρ', hm', hq⟩
  exact k _ _ _ _ hm' hq
theorem wpD_seq_defer {j : Nat} {b : Code} {d : Tmp} {g : FuncId} {cap : List Operand} {ty ty2 : TypeId} {pos pos2 : String} {aft aft2 : Array Edge} {ts : Array TypeId}
    (h : WpD P n b Q (⟨.fn (.func g) (cap.map (ev ρ)).toArray, #[]⟩ :: D) (upd ρ d (.func (.func g) #[] (cap.map (ev ρ)).toArray)) w) :
    WpD P n (.seq (.region j #[⟨some d, .makeFunc (.func g) #[] cap.toArray, ty, pos, aft, none⟩, ⟨none, .defer ⟨.value (.tmp d), #[], ts⟩, ty2, pos2, aft2, none⟩] false) b) Q D ρ w := by
  intro hc act hm
  simp only [codeOk, Bool.and_eq_true] at hc
  have hd : Nat.blt d n = true := by
    have := hc.1
    simp [dstOk] at this
    simpa using this
  refine Go.wp_seq (wp_region_lit (l := [_, _]) ?_)
  refine wpList_plain rfl fun K hK => ?_
  unfold Oper.wp
  rw [hm.eval]
  have hr1 : (execOp (ev ρ) ⟨some d, .makeFunc (.func g) #[] cap.toArray, ty, pos, aft, none⟩).run P w = .ok (.value (.func (.func g) #[] (cap.map (ev ρ)).toArray)) w := by simp [execOp, Instr.makeFunc]
  rw [hr1]
  have hm2 := hm.put hd (.func (.func g) #[] (cap.map (ev ρ)).toArray)
  refine hK _ _ ?_
  refine wpList_plain rfl fun K2 hK2 => ?_
  unfold Oper.wp
  rw [hm2.eval]
  have hr2 : (execOp (ev (upd ρ d (.func (.func g) #[] (cap.map (ev ρ)).toArray))) ⟨none, .defer ⟨.value (.tmp d), #[], ts⟩, ty2, pos2, aft2, none⟩).run P w = .ok (.defer ⟨.fn (.func g) (cap.map (ev ρ)).toArray, #[]⟩) w := by
    simp [execOp, resolve, Deferred.ofValue, ev, upd_same]
  rw [hr2]
  refine hK2 _ _ (wpList_nil ?_)
  exact h hc.2 _ ⟨hm2.size, by show _ :: _ = _ :: _; rw [hm2.defers], hm2.get⟩
end
theorem gives_of_defer {P : Program} {f : FuncId} {fn : Func} {c : Code} {args : List Value} {w : World} {Ψ : Value → World → Prop}
    (hf : P.funcs[f]? = some fn) (hb : fn.body = some c) (hok : codeOk fn.ntmps c = true) (hn0 : Nat.ble args.length fn.ntmps = true)
    (h : WpD P fn.ntmps c (bodyPostD P fn fun e w' => ∃ v, e = .returned v ∧ Ψ v w') [] (fun i => args.getD i undef) w) : Gives P f args w Ψ :=
  calls_of_wp_defers hf hb (h hok _ (frame_mt fn hn0))
theorem defQ_end {P : Program} {fn : Func} {Ψ : Value → World → Prop} {g : FuncId} {caps : List Value} [ci : CallI P g] {e : Exit} {a : Act} {ρ : Fr} {w : World}
    (hm : Mt fn.ntmps [⟨.fn (.func g) caps.toArray, #[]⟩] a ρ) (h : defQ P fn Ψ g caps e ρ w) : bodyPostD P fn (fun e w' => ∃ v, e = .returned v ∧ Ψ v w') e a w := by
  have hi : (invoke (.fn (.func g) caps.toArray) #[]).run P w = .ok (.enter g caps.toArray) w := by simp [invoke, ci.run]
  have hret : ∀ w', (∃ vs, resAll P ρ w' fn.results.toList vs ∧ Ψ (shut vs) w') → Leaves P fn a.tmps (fun e w' => ∃ v, e = .returned v ∧ Ψ v w') [] .returning w' := by
    rintro w' ⟨vs, hr, hv⟩
    exact ⟨_, results_run hm hr, _, rfl, hv⟩
  have hn : (h : GivesD P g caps .returning w fun u' w' => u' = .returning ∧ ∃ vs, resAll P ρ w' fn.results.toList vs ∧ Ψ (shut vs) w') → Leaves P fn a.tmps (fun e w' => ∃ v, e = .returned v ∧ Ψ v w') a.defers .returning w := by
    intro h
    rw [hm.defers]
    refine leaves_cons (by simp) hi (CallsD.mono h ?_)
    rintro e u' w' ⟨⟨v, rfl⟩, rfl, hv⟩
    exact hret w' hv
  cases e with
  | normal => exact hn h
  | ret => exact hn h
  | panic ch =>
    show Leaves P fn a.tmps _ a.defers (.panicking ch) w
    rw [hm.defers]
    refine leaves_cons (by simp) hi (CallsD.mono h ?_)
    rintro e u' w' ⟨⟨v, rfl⟩, hs, hv⟩
    show Leaves P fn a.tmps _ [] (settle u') w'
    rw [hs]
    exact hret w' hv
  | _ => exact h.elim

/-- How a deferred closure's body ends. -/
def retQ (P : Program) (fn : Func) (K : World → Prop) : Post := fun e ρ w => match e with
  | .normal | .ret => ∃ vs, resAll P ρ w fn.results.toList vs ∧ K w
  | _ => False
theorem opsS_rec {P : Program} {ops : Array Oper} {Q : Exit → Act → List Frame → World → Prop} {i : Nat} {rest : List Nat} {a : Act} {cs : List Frame} {w w' : World} {o : Oper} (h0 : ops[i]? = some o) (hg : o.guard = none)
    (hr : (execOp a.eval o).run P w = .ok .recover w')
    (h : match recoverD cs with | some (v, cs') => wpOpsS P ops Q rest (a.put o.dst v) cs' w' | none => wpOpsS P ops Q rest (a.put o.dst .nilIface) cs w') : wpOpsS P ops Q (i :: rest) a cs w := by
  unfold wpOpsS
  simp only [h0, Region.wanted, hg, hr, if_true]
  exact h
theorem opsS_val {P : Program} {ops : Array Oper} {Q : Exit → Act → List Frame → World → Prop} {i : Nat} {rest : List Nat} {a : Act} {cs : List Frame} {w w' : World} {o : Oper} {v : Value} (h0 : ops[i]? = some o) (hg : o.guard = none)
    (hr : (execOp a.eval o).run P w = .ok (.value v) w') (h : wpOpsS P ops Q rest (a.put o.dst v) cs w') : wpOpsS P ops Q (i :: rest) a cs w := by
  unfold wpOpsS
  simp only [h0, Region.wanted, hg, hr, if_true, Oper.upon]
  exact h
/-- A deferred closure that begins with recover(). -/
theorem givesD_recover {P : Program} {f : FuncId} {fn : Func} {j : Nat} {d1 d2 : Tmp} {ty ty2 : TypeId} {pos pos2 : String} {aft aft2 : Array Edge} {c1 : Code} {args : List Value} {u u2 : FrameMode} {v : Value} {w : World} {Φ : FrameMode → World → Prop}
    (hf : P.funcs[f]? = some fn)
    (hb : fn.body = some (.seq (.region j #[⟨some d1, .call ⟨.builtin .recover, #[], #[]⟩, ty, pos, aft, none⟩, ⟨some d2, .assign (.tmp d1), ty2, pos2, aft2, none⟩] false) c1))
    (hn0 : Nat.ble args.length fn.ntmps = true) (hd1 : Nat.blt d1 fn.ntmps = true) (hd2 : Nat.blt d2 fn.ntmps = true) (hok : codeOk fn.ntmps c1 = true)
    (hu : (u = .returning ∧ u2 = .returning ∧ v = .nilIface) ∨ ∃ x, u = .panicking [{ v := x, recovered := false }] ∧ u2 = .panicking [{ v := x, recovered := true }] ∧ v = x)
    (h : Wp P fn.ntmps c1 (retQ P fn (Φ u2)) (upd (upd (fun i => args.getD i undef) d1 v) d2 v) w) : GivesD P f args u w Φ := by
  refine callsD_of_wpS hf hb fun c₀ cs hm => ?_
  have m0 := frame_mt fn hn0
  have m1 := m0.put hd1 v
  have m2 := m1.put hd2 v
  refine wpS_seq (wpS_region ?_)
  have hrange : List.range (#[(⟨some d1, .call ⟨.builtin .recover, #[], #[]⟩, ty, pos, aft, none⟩ : Oper), ⟨some d2, .assign (.tmp d1), ty2, pos2, aft2, none⟩]).size = [0, 1] := rfl
  rw [hrange]
  have hrest : ∀ cs', cs' = { c₀ with mode := u2 } :: cs → Code.wpS P c1 (bodyPostS P fn c₀ cs fun e u' w' => (∃ v, e = .returned v) ∧ Φ u' w')
      (({ tmps := args.toArray ++ Array.replicate (fn.ntmps - args.toArray.size) undef, defers := [] } : Act).put (some d1) v |>.put (some d2) v) cs' w := by
    rintro cs' rfl
    refine wpS_of_wp ?_
    unfold Wp at h
    refine Go.wp_mono (h hok _ _ m2) ?_
    rintro e a w' ⟨ρ, hm', hq⟩
    cases e with
    | normal => obtain ⟨vs, hr, hv⟩ := hq; exact ⟨hm'.defers, u2, rfl, _, results_run hm' hr, ⟨_, rfl⟩, hv⟩
    | ret => obtain ⟨vs, hr, hv⟩ := hq; exact ⟨hm'.defers, u2, rfl, _, results_run hm' hr, ⟨_, rfl⟩, hv⟩
    | _ => exact hq.elim
  have hr0 : ∀ ρ : Operand → Value, (execOp ρ ⟨some d1, .call ⟨.builtin .recover, #[], #[]⟩, ty, pos, aft, none⟩).run P w = .ok .recover w := fun ρ => by
    simp [execOp, resolve, invoke, builtin]
  have hr1 : (execOp (({ tmps := args.toArray ++ Array.replicate (fn.ntmps - args.toArray.size) undef, defers := [] } : Act).put (some d1) v).eval ⟨some d2, .assign (.tmp d1), ty2, pos2, aft2, none⟩).run P w = .ok (.value v) w := by
    rw [m1.eval]
    simp [execOp, ev, upd_same]
  have hrec : (match recoverD (c₀ :: cs) with | some (v', cs') => v' = v ∧ cs' = { c₀ with mode := u2 } :: cs | none => v = .nilIface ∧ c₀ :: cs = { c₀ with mode := u2 } :: cs) := by
    rcases hu with ⟨rfl, rfl, rfl⟩ | ⟨x, rfl, rfl, rfl⟩
    · simp only [recoverD, hm]
      refine ⟨trivial, ?_⟩
      congr 1
      rw [← hm]
    · simp only [recoverD, hm]
      first | exact ⟨trivial, trivial⟩ | exact ⟨trivial, rfl⟩
  refine opsS_rec (o := ⟨some d1, .call ⟨.builtin .recover, #[], #[]⟩, ty, pos, aft, none⟩) rfl rfl (hr0 _) ?_
  cases hr : recoverD (c₀ :: cs) with
  | none =>
    rw [hr] at hrec
    obtain ⟨hv, hcs⟩ := hrec
    subst hv
    exact opsS_val (o := ⟨some d2, .assign (.tmp d1), ty2, pos2, aft2, none⟩) rfl rfl hr1 (hrest _ hcs)
  | some p =>
    obtain ⟨v', cs'⟩ := p
    rw [hr] at hrec
    obtain ⟨hv, hcs⟩ := hrec
    subst hv
    exact opsS_val (o := ⟨some d2, .assign (.tmp d1), ty2, pos2, aft2, none⟩) rfl rfl hr1 (hrest _ hcs)
end Go.Proofs.YtpmnjjmngogkkaaGreatDoor

/- Calls that may panic, literals of structs, results that lie in variables. It holds for every program. -/
import Derived.Test.YtpmnjjmngogkkaaGreatDoorOps
import Derived.Defers
import Derived.Recover
set_option linter.unusedVariables false
set_option linter.unusedSimpArgs false
namespace Go.Proofs.YtpmnjjmngogkkaaGreatDoor
open Go Go.RowKit

/-- What a call gives, or how it panics. -/
def GivesE (P : Program) (f : FuncId) (args : List Value) (w : World) (Ψ : Value → World → Prop) (Φ : List PanicEntry → World → Prop) : Prop :=
  Calls P f args.toArray w fun e w' => match e with | .returned v => Ψ v w' | .panicked ch => Φ ch w' | .outgrown => False
theorem GivesE.mono {P : Program} {f : FuncId} {args : List Value} {w : World} {Ψ Ψ' : Value → World → Prop} {Φ Φ' : List PanicEntry → World → Prop} (h : GivesE P f args w Ψ Φ)
    (k : ∀ v w', Ψ v w' → Ψ' v w') (l : ∀ c w', Φ c w' → Φ' c w') : GivesE P f args w Ψ' Φ' :=
  Calls.mono h fun e w' he => match e, he with
    | .returned _, h => k _ _ h
    | .panicked _, h => l _ _ h
    | .outgrown, h => h
theorem Gives.e {P : Program} {f : FuncId} {args : List Value} {w : World} {Ψ : Value → World → Prop} {Φ : List PanicEntry → World → Prop} (h : Gives P f args w Ψ) : GivesE P f args w Ψ Φ :=
  Calls.mono h fun e w' ⟨v, he, hv⟩ => by subst he; exact hv
theorem GivesE.gives {P : Program} {f : FuncId} {args : List Value} {w : World} {Ψ : Value → World → Prop} {Φ : List PanicEntry → World → Prop} (h : GivesE P f args w Ψ Φ) (hn : ∀ c w', ¬ Φ c w') : Gives P f args w Ψ :=
  Calls.mono h fun e w' he => match e, he with
    | .returned v, h => ⟨v, rfl, h⟩
    | .panicked _, h => (hn _ _ h).elim
    | .outgrown, h => h.elim
def endE (P : Program) (fn : Func) (Ψ : Value → World → Prop) (Φ : List PanicEntry → World → Prop) : Post := fun e ρ w => match e with
  | .normal | .ret => ∃ vs, resAll P ρ w fn.results.toList vs ∧ Ψ (shut vs) w
  | .panic ch => Φ ch w
  | _ => False
theorem endE_of {P : Program} {fn : Func} {Ψ : Value → World → Prop} {Φ : List PanicEntry → World → Prop} {ρ : Fr} {w : World} (h : endQ P fn Ψ .ret ρ w) : endE P fn Ψ Φ .ret ρ w := h
theorem endE_panic {P : Program} {fn : Func} {Ψ : Value → World → Prop} {Φ : List PanicEntry → World → Prop} {ρ : Fr} {w : World} {ch : List PanicEntry} (h : Φ ch w) : endE P fn Ψ Φ (.panic ch) ρ w := h
theorem q_then_panic {K : Fr → World → Prop} {Q : Post} {ρ : Fr} {w : World} {ch : List PanicEntry} (h : Q (.panic ch) ρ w) : thenQ K Q (.panic ch) ρ w := h
theorem q_block_panic {i : Nat} {Q : Post} {ρ : Fr} {w : World} {ch : List PanicEntry} (h : Q (.panic ch) ρ w) : blockQ i Q (.panic ch) ρ w := h
theorem frame_mt (fn : Func) {args : List Value} (hn0 : Nat.ble args.length fn.ntmps = true) :
    Mt fn.ntmps [] { tmps := args.toArray ++ Array.replicate (fn.ntmps - args.toArray.size) undef, defers := [] } (fun i => args.getD i undef) := by
  have hn : args.length ≤ fn.ntmps := Nat.le_of_ble_eq_true hn0
  refine ⟨by simp; omega, rfl, fun i => ?_⟩
  simp only [Array.getD_eq_getD_getElem?, List.getD_eq_getElem?_getD]
  rw [Array.getElem?_append]
  split
  · simp
  · rename_i hlt
    simp at hlt
    rw [List.getElem?_eq_none hlt]
    simp only [Array.getElem?_replicate]
    split <;> rfl
theorem givesE_of {P : Program} {f : FuncId} {fn : Func} {c : Code} {args : List Value} {w : World} {Ψ : Value → World → Prop} {Φ : List PanicEntry → World → Prop}
    (hf : P.funcs[f]? = some fn) (hb : fn.body = some c) (hok : codeOk fn.ntmps c = true) (hn0 : Nat.ble args.length fn.ntmps = true)
    (h : Wp P fn.ntmps c (endE P fn Ψ Φ) (fun i => args.getD i undef) w) : GivesE P f args w Ψ Φ := by
  refine calls_of_wp hf hb ?_
  unfold Wp at h
  refine Go.wp_mono (h hok _ _ (frame_mt fn hn0)) ?_
  rintro e a w' ⟨ρ, hm', hq⟩
  cases e with
  | normal => obtain ⟨vs, hr, hv⟩ := hq; exact ⟨hm'.defers, _, results_run hm' hr, hv⟩
  | ret => obtain ⟨vs, hr, hv⟩ := hq; exact ⟨hm'.defers, _, results_run hm' hr, hv⟩
  | panic ch => exact ⟨hm'.defers, hq⟩
  | _ => exact hq.elim

section rules
variable {P : Program} {n : Nat} {Q : Post} {ρ : Fr} {w : World} {all rest : List Oper} {d : Tmp} {ty : TypeId} {pos : String} {aft : Array Edge}
theorem r_panic {x : Operand} {t : TypeId} {v : Value} (hx : ev ρ x = .iface t v) (h : Q (.panic [{ v := .iface t v, recovered := false }]) ρ w) :
    WpR P n all Q (⟨none, .panic x, ty, pos, aft, none⟩ :: rest) ρ w := by
  unfold WpR
  intro hd D a hm
  refine wpList_plain rfl fun K hK => ?_
  unfold Oper.wp
  rw [hm.eval]
  have hr : (execOp (ev ρ) ⟨none, .panic x, ty, pos, aft, none⟩).run P w = .halt (.panic (.iface t v)) w := by
    simp [execOp, hx, run_panic_iface]
  rw [hr]
  exact ⟨ρ, hm, h⟩
theorem r_enterE {o : Oper} {f : FuncId} {args : List Value} {Ψ : Value → World → Prop} {Φ : List PanicEntry → World → Prop} (hg : o.guard = none) (hdst : o.dst = some d) (hr : (execOp (ev ρ) o).run P w = .ok (.enter f args.toArray) w)
    (hc : GivesE P f args w Ψ Φ) (h : ∀ v w', Ψ v w' → WpR P n all Q rest (upd ρ d v) w') (hp : ∀ ch w', Φ ch w' → Q (.panic ch) ρ w') : WpR P n all Q (o :: rest) ρ w := by
  unfold WpR at *
  intro hd D a hm
  simp only [List.all_cons, Bool.and_eq_true] at hd
  refine wpList_plain hg fun K hK => ?_
  unfold Oper.wp
  rw [hm.eval, hr]
  show Calls _ _ _ _ _
  refine Calls.mono hc fun e w' he => ?_
  cases e with
  | returned v =>
    have h3 := hm.putO hd.1 v
    rw [hdst] at h3 ⊢
    exact hK _ _ (h v w' he hd.2 _ _ h3)
  | panicked ch => exact ⟨ρ, hm, hp ch w' he⟩
  | outgrown => exact he.elim
theorem r_callE {f : FuncId} [ci : CallI P f] {l : List Operand} {ts : Array TypeId} {args : List Value} {Ψ : Value → World → Prop} {Φ : List PanicEntry → World → Prop} (hc : GivesE P f args w Ψ Φ) (ha : l.map (ev ρ) = args)
    (h : ∀ v w', Ψ v w' → WpR P n all Q rest (upd ρ d v) w') (hp : ∀ ch w', Φ ch w' → Q (.panic ch) ρ w') : WpR P n all Q (⟨some d, .call ⟨.value (.func f), l.toArray, ts⟩, ty, pos, aft, none⟩ :: rest) ρ w := by
  refine r_enterE rfl rfl ?_ hc h hp
  subst ha
  simp [execOp, resolve, Deferred.ofValue, ev, invoke, ci.run]
theorem r_callvE {f : FuncId} [ci : CallI P f] {x : Operand} {first cap : List Value} {l : List Operand} {ts : Array TypeId} {args : List Value} {Ψ : Value → World → Prop} {Φ : List PanicEntry → World → Prop}
    (hx : ev ρ x = .func (.func f) first.toArray cap.toArray) (hc : GivesE P f args w Ψ Φ) (ha : first ++ l.map (ev ρ) ++ cap = args)
    (h : ∀ v w', Ψ v w' → WpR P n all Q rest (upd ρ d v) w') (hp : ∀ ch w', Φ ch w' → Q (.panic ch) ρ w') : WpR P n all Q (⟨some d, .call ⟨.value x, l.toArray, ts⟩, ty, pos, aft, none⟩ :: rest) ρ w := by
  refine r_enterE rfl rfl ?_ hc h hp
  subst ha
  simp [execOp, resolve, Deferred.ofValue, hx, invoke, ci.run]

/-- Bools, and the negative of a uint64. -/
theorem run_equalB {t : TypeId} [bt : BoolT P t] (a b : Bool) : (Op.equal t (.bool a) (.bool b)).run P w = .ok (a == b) w := by
  unfold Op.equal Op.maxDepth Op.equalIn
  simp [run_underlying bt.und]
theorem r_eqlB {x y : Operand} {xt yt : TypeId} [bt : BoolT P xt] {p q : Prop} (hx : ev ρ x = .bool (tst p)) (hy : ev ρ y = .bool (tst q)) (h : WpR P n all Q rest (upd ρ d (.bool (tst (p ↔ q)))) w) :
    WpR P n all Q (⟨some d, .binOp .eql xt x y yt, ty, pos, aft, none⟩ :: rest) ρ w := by
  have e : (tst p == tst q) = tst (p ↔ q) := by
    by_cases hp : p <;> by_cases hq : q
    · rw [tst_true hp, tst_true hq, tst_true ⟨fun _ => hq, fun _ => hp⟩]; rfl
    · rw [tst_true hp, tst_false hq, tst_false fun h => hq (h.1 hp)]; rfl
    · rw [tst_false hp, tst_true hq, tst_false fun h => hp (h.2 hq)]; rfl
    · rw [tst_false hp, tst_false hq, tst_true ⟨fun h => (hp h).elim, fun h => (hq h).elim⟩]; rfl
  refine r_val rfl rfl ?_ h
  rw [← e]
  simp [execOp, hx, hy, eqGuard, binOp, run_equalB]
theorem r_neqB {x y : Operand} {xt yt : TypeId} [bt : BoolT P xt] {p q : Prop} (hx : ev ρ x = .bool (tst p)) (hy : ev ρ y = .bool (tst q)) (h : WpR P n all Q rest (upd ρ d (.bool (tst (¬ (p ↔ q))))) w) :
    WpR P n all Q (⟨some d, .binOp .neq xt x y yt, ty, pos, aft, none⟩ :: rest) ρ w := by
  have e : (tst p != tst q) = tst (¬ (p ↔ q)) := by
    by_cases hp : p <;> by_cases hq : q
    · rw [tst_true hp, tst_true hq, tst_false fun h => h ⟨fun _ => hq, fun _ => hp⟩]; rfl
    · rw [tst_true hp, tst_false hq, tst_true fun h => hq (h.1 hp)]; rfl
    · rw [tst_false hp, tst_true hq, tst_true fun h => hp (h.2 hq)]; rfl
    · rw [tst_false hp, tst_false hq, tst_false fun h => h ⟨fun h => (hp h).elim, fun h => (hq h).elim⟩]; rfl
  refine r_val rfl rfl ?_ h
  rw [← e]
  simp [execOp, hx, hy, eqGuard, binOp, run_equalB, bne]
theorem r_notB {t : TypeId} {x : Operand} {p : Prop} (hx : ev ρ x = .bool (tst p)) (h : WpR P n all Q rest (upd ρ d (.bool (tst (¬ p)))) w) :
    WpR P n all Q (⟨some d, .unOp .not t x, ty, pos, aft, none⟩ :: rest) ρ w := r_not hx (by rw [not_tst]; exact h)
theorem r_negU {t : TypeId} {x : Operand} {a c : Int} (hx : ev ρ x = .int .u64 a) (hc : IntKind.u64.wrap (-a) = c) (h : WpR P n all Q rest (upd ρ d (.int .u64 c)) w) :
    WpR P n all Q (⟨some d, .unOp .neg t x, ty, pos, aft, none⟩ :: rest) ρ w :=
  r_val rfl rfl (by subst hc; simp [execOp, hx, Op.unary, Op.intArith]) h

/-- Literals of structs. -/
class StcT (P : Program) (T : TypeId) (pl : outParam (List (Nat × Nat))) : Prop where
  ex : ∃ fs, P.underlying T = some (.struct fs) ∧ ∀ w, (fs.mapM fun f => Prod.mk f.offset <$> sizeOf f.type : Sem _).run P w = .ok pl.toArray w
/-- Types of interfaces. -/
class IfcT (P : Program) (t : TypeId) : Prop where
  und : ∃ ms, P.underlying t = some (.interface ms)
theorem r_build {T : TypeId} {s b : Nat} {z : Value} {agg : Bool} [ti : TyI P T s b z agg] {pl : List (Nat × Nat)} [st : StcT P T pl] {parts : List (Nat × Operand)} {vs : List (Nat × Value)} {zs cs : List Value}
    (hz : z.cells = zs.toArray) (hv : (parts.map fun p => (p.1, ev ρ p.2)) = vs) (hf : Instr.fill (fun i : Nat => (pl[i]? : Option (Nat × Nat))) zs.toArray vs = some cs.toArray)
    (h : WpR P n all Q rest (upd ρ d (.agg cs.toArray)) w) : WpR P n all Q (⟨some d, .build T parts.toArray, ty, pos, aft, none⟩ :: rest) ρ w := by
  obtain ⟨fs, h1, h2⟩ := st.ex
  refine r_val rfl rfl ?_ h
  subst hv
  have h3 : (fun i : Nat => ((pl.toArray)[i]? : Option (Nat × Nat))) = fun i : Nat => (pl[i]? : Option (Nat × Nat)) := by funext i; simp
  simp [execOp, Instr.build, ti.runZero w, run_underlying h1, h2, hz, h3, hf]
theorem fill_nil {pl : Nat → Option (Nat × Nat)} {zs : List Value} : Instr.fill pl zs.toArray [] = some zs.toArray := rfl
theorem fill_one {pl : Nat → Option (Nat × Nat)} {zs : List Value} {i off : Nat} {v : Value} {r : List (Nat × Value)} {o : Option (Array Value)} (hp : pl i = some (off, 1)) (h1 : v.oneCell' = true) (ho : off < zs.length)
    (h : Instr.fill pl (zs.set off v).toArray r = o) : Instr.fill pl zs.toArray ((i, v) :: r) = o := by
  have hc : v.cells = #[v] := cells_one h1
  unfold Instr.fill
  simp only [hp, hc]
  have e : (#[v].size ≠ 1 || decide (off + #[v].size > zs.toArray.size)) = false := by simp; omega
  rw [if_neg (by rw [e]; simp)]
  subst h
  simp
theorem fill_two {pl : Nat → Option (Nat × Nat)} {zs : List Value} {i off : Nat} {a b : Value} {r : List (Nat × Value)} {o : Option (Array Value)} (hp : pl i = some (off, 2)) (ho : off + 1 < zs.length)
    (h : Instr.fill pl ((zs.set off a).set (off + 1) b).toArray r = o) : Instr.fill pl zs.toArray ((i, .agg #[a, b]) :: r) = o := by
  have hc : (Value.agg #[a, b]).cells = #[a, b] := rfl
  unfold Instr.fill
  simp only [hp, hc]
  have e : (#[a, b].size ≠ 2 || decide (off + #[a, b].size > zs.toArray.size)) = false := by simp; omega
  rw [if_neg (by rw [e]; simp)]
  subst h
  simp [Array.zipIdx]
end rules

section ends
variable {P : Program} {fn : Func} {Ψ : Value → World → Prop} {ρ : Fr} {w : World}
theorem resV_agg {t : TypeId} {s b : Nat} {z : Value} [ti : TyI P t s b z true] {a : Tmp} {g : Nat} {T : TypeId} {cs : List Value} (h : ρ a = .pointer (some ⟨g, 0, none⟩)) (hb : Blk w g T cs) (hs : cs.length = s) :
    resV P ρ w (.cell a t) (.agg cs.toArray) :=
  ⟨⟨g, 0, none⟩, h, load_agg ti hs fun i hi => by rw [Nat.zero_add, List.getElem?_eq_getElem hi]; exact hb.cell (List.getElem?_eq_getElem hi)⟩
theorem resV_one {t : TypeId} {s b : Nat} {z : Value} [ti : TyI P t s b z false] {a : Tmp} {g : Nat} {T : TypeId} {v : Value} (h : ρ a = .pointer (some ⟨g, 0, none⟩)) (hb : Blk w g T [v]) :
    resV P ρ w (.cell a t) v := ⟨⟨g, 0, none⟩, h, load_one ti (hb.cell rfl)⟩
theorem resV_tmp {t : Tmp} {v : Value} (h : ρ t = v) : resV P ρ w (.tmp t) v := h.symm
theorem end1 {r : ResultVar} {v : Value} (hl : fn.results.toList = [r]) (h : resV P ρ w r v) (hv : Ψ v w) : endQ P fn Ψ .ret ρ w :=
  ⟨[v], by rw [hl]; exact ⟨v, [], h, rfl, rfl⟩, hv⟩
theorem end2 {r r2 : ResultVar} {v v2 : Value} (hl : fn.results.toList = [r, r2]) (h : resV P ρ w r v) (h2 : resV P ρ w r2 v2) (hv : Ψ (.tuple #[v, v2]) w) : endQ P fn Ψ .ret ρ w :=
  ⟨[v, v2], by rw [hl]; exact ⟨v, [v2], h, ⟨v2, [], h2, rfl, rfl⟩, rfl⟩, hv⟩
theorem end3 {r r2 r3 : ResultVar} {v v2 v3 : Value} (hl : fn.results.toList = [r, r2, r3]) (h : resV P ρ w r v) (h2 : resV P ρ w r2 v2) (h3 : resV P ρ w r3 v3) (hv : Ψ (.tuple #[v, v2, v3]) w) : endQ P fn Ψ .ret ρ w :=
  ⟨[v, v2, v3], by rw [hl]; exact ⟨v, [v2, v3], h, ⟨v2, [v3], h2, ⟨v3, [], h3, rfl, rfl⟩, rfl⟩, rfl⟩, hv⟩
end ends
end Go.Proofs.YtpmnjjmngogkkaaGreatDoor

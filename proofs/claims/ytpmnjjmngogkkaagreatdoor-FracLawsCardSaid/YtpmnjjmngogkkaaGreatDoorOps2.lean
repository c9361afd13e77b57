/- More operations: literals without parts, interfaces, strings. It holds for every program. -/
import Derived.Test.YtpmnjjmngogkkaaGreatDoorPanic
import Derived.Test.YtpmnjjmngogkkaaGreatDoorOwn
import Derived.Lib.SliceRun
set_option linter.unusedVariables false
set_option linter.unusedSimpArgs false
namespace Go.Proofs.YtpmnjjmngogkkaaGreatDoor
open Go Go.RowKit
theorem oper_mono {P : Program} {o : Oper} {a : Act} {w : World} {K K' : Act → World → Prop} {Q Q' : Exit → Act → World → Prop} (h : ∀ a w, K a w → K' a w) (hq : ∀ e a w, Q e a w → Q' e a w)
    (hh : o.wp P a w K Q) : o.wp P a w K' Q' := by
  have hl : LetsOut Q → LetsOut Q' := fun ⟨a, w, x⟩ => ⟨a, w, hq _ _ _ x⟩
  unfold Oper.wp at *
  generalize (execOp a.eval o).run P w = r at *
  unfold Oper.upon at *
  split at hh
  · exact h _ _ hh
  · exact h _ _ hh
  · exact h _ _ hh
  · refine Calls.mono hh ?_
    intro e w' he
    cases e with
    | returned v => exact h _ _ he
    | panicked c => exact hq _ _ _ he
    | outgrown => exact hl he
  · exact Rows.mono hh fun v w' he => h _ _ he
  · exact hq _ _ _ hh
  · exact hh.elim
theorem wpList_mono {P : Program} {ops : Array Oper} {Q Q' : Exit → Act → World → Prop} (hq : ∀ e a w, Q e a w → Q' e a w) : ∀ (l : List Oper) (a : Act) (w : World), wpList P ops Q l a w → wpList P ops Q' l a w := by
  intro l
  induction l with
  | nil => intro a w h; exact hq _ _ _ h
  | cons o l ih =>
    intro a w h
    simp only [wpList] at h ⊢
    split at h
    · rename_i hw
      rw [if_pos hw]
      rcases h with h | ⟨h, a', w', h2⟩
      · exact .inl (oper_mono ih hq h)
      · exact .inr ⟨h, a', w', hq _ _ _ h2⟩
    · rename_i hw
      rw [if_neg hw]
      exact ih _ _ h
/-- What holds between two parts, in the midst of a region. -/
theorem r_mid {P : Program} {n : Nat} {Q : Post} {ρ : Fr} {w : World} {all rest : List Oper} {K : Fr → World → Prop} (W : List (Nat × Nat)) (R : Fr → World → Prop) (h1 : WpR P n all (thenQ (fun ρ' w' => Agree W ρ ρ' ∧ R ρ' w') Q) rest ρ w)
    (h2 : ∀ u w', R (over W u ρ) w' → K (over W u ρ) w') : WpR P n all (thenQ K Q) rest ρ w := by
  unfold WpR at *
  intro hok D a hm
  refine wpList_mono ?_ _ _ _ (h1 hok D a hm)
  rintro e a w ⟨ρ', hm', hq⟩
  refine ⟨ρ', hm', ?_⟩
  cases e with
  | normal =>
    obtain ⟨hag, hR⟩ := hq
    have ho := over_of_agree hag
    show K ρ' w
    rw [ho] at hR ⊢
    exact h2 ρ' w hR
  | _ => exact hq
section rules
variable {P : Program} {n : Nat} {Q : Post} {ρ : Fr} {w : World} {all rest : List Oper} {d : Tmp} {ty : TypeId} {pos : String} {aft : Array Edge}
theorem r_build0 {T : TypeId} {s b : Nat} {z : Value} {agg : Bool} [ti : TyI P T s b z agg] {pl : List (Nat × Nat)} [st : StcT P T pl] {cs : List Value} (hz : z.cells = cs.toArray)
    (h : WpR P n all Q rest (upd ρ d (.agg cs.toArray)) w) : WpR P n all Q (⟨some d, .build T #[], ty, pos, aft, none⟩ :: rest) ρ w :=
  r_build (parts := []) hz rfl fill_nil h
theorem r_iface {T : TypeId} {pl : List (Nat × Nat)} [st : StcT P T pl] {x : Operand} {v : Value} (hx : ev ρ x = v) (h : WpR P n all Q rest (upd ρ d (.iface T v)) w) :
    WpR P n all Q (⟨some d, .makeInterface T x, ty, pos, aft, none⟩ :: rest) ρ w := by
  obtain ⟨fs, h1, _⟩ := st.ex
  refine r_val rfl rfl ?_ h
  subst hx
  simp [execOp, Instr.makeInterface, run_underlying h1]
theorem r_assert {T xt : TypeId} {pl : List (Nat × Nat)} [st : StcT P T pl] {x : Operand} {v : Value} (hx : ev ρ x = .iface T v) (h : WpR P n all Q rest (upd ρ d (.tuple #[v, .bool true])) w) :
    WpR P n all Q (⟨some d, .typeAssert x xt T true, ty, pos, aft, none⟩ :: rest) ρ w := by
  obtain ⟨fs, h1, _⟩ := st.ex
  refine r_val rfl rfl ?_ h
  simp [execOp, Instr.typeAssert, hx, run_underlying h1]
theorem r_neq_iface {t t2 : TypeId} [it : IfcT P t] {x : Operand} {T : TypeId} {v : Value} (hx : ev ρ x = .iface T v) (h : WpR P n all Q rest (upd ρ d (.bool true)) w) :
    WpR P n all Q (⟨some d, .binOp .neq t x (.const .nilIface) t2, ty, pos, aft, none⟩ :: rest) ρ w := by
  obtain ⟨ms, h1⟩ := it.und
  refine r_val rfl rfl ?_ h
  have h2 : (Op.equal t (.iface T v) .nilIface).run P w = .ok false w := by
    unfold Op.equal Op.maxDepth Op.equalIn
    simp [run_underlying h1]
  have hn : ev ρ (.const .nilIface) = .nilIface := rfl
  simp [execOp, hx, hn, eqGuard, binOp, h2]
theorem r_neq_nilIface {t t2 : TypeId} [it : IfcT P t] {x : Operand} (hx : ev ρ x = .nilIface) (h : WpR P n all Q rest (upd ρ d (.bool false)) w) :
    WpR P n all Q (⟨some d, .binOp .neq t x (.const .nilIface) t2, ty, pos, aft, none⟩ :: rest) ρ w := by
  obtain ⟨ms, h1⟩ := it.und
  refine r_val rfl rfl ?_ h
  have h2 : (Op.equal t .nilIface .nilIface).run P w = .ok true w := by
    unfold Op.equal Op.maxDepth Op.equalIn
    simp [run_underlying h1]
  have hn : ev ρ (.const .nilIface) = .nilIface := rfl
  simp [execOp, hx, hn, eqGuard, binOp, h2]
theorem r_eql_nil {t t2 T : TypeId} [st : SlT P t T] {x : Operand} {a : Option Addr} {m cap : Nat} (hx : ev ρ x = .slice a m cap) (h : WpR P n all Q rest (upd ρ d (.bool a.isNone)) w) :
    WpR P n all Q (⟨some d, .binOp .eql t x (.const (.slice none 0 0)) t2, ty, pos, aft, none⟩ :: rest) ρ w := by
  refine r_val rfl rfl ?_ h
  have h2 := Lib.run_eql_slice_nil (P := P) w t T a m cap 0 0 st.und
  have hn : ev ρ (.const (.slice none 0 0)) = .slice none 0 0 := rfl
  simp [execOp, hx, hn, eqGuard, h2]
theorem r_lit0 {t T : TypeId} [st : SlT P t T] {s b : Nat} {z : Value} {agg : Bool} [ti : TyI P T s b z agg]
    (h : ∀ w' g, Ext w w' → Blk w' g T [] → w.heap.size ≤ g → WpR P n all Q rest (upd ρ d (.slice (some ⟨g, 0, none⟩) 0 0)) w') :
    WpR P n all Q (⟨some d, .buildSlice t 0 #[], ty, pos, aft, none⟩ :: rest) ρ w := by
  refine r_valw (w' := w.alloc (.cells [].toArray T)) rfl rfl ?_ (h _ w.heap.size (ext_alloc _ _) (Blk.new _ _ _) (Nat.le_refl _))
  have e : ∀ f : Nat → Value, Array.map f (Array.range 0) = #[] := fun f => by simp
  simp [execOp, Instr.buildSlice, run_underlying st.und, ti.runSize w, Instr.fill, newRow, e]
/-- Strings. -/
abbrev strV (l : List UInt8) : Value := .string ⟨l.toArray⟩
theorem r_cat {t t2 : TypeId} {x y : Operand} {a b : List UInt8} (hx : ev ρ x = strV a) (hy : ev ρ y = strV b) (hl : a.length + b.length ≤ 9223372036854775807)
    (h : WpR P n all Q rest (upd ρ d (strV (a ++ b))) w) : WpR P n all Q (⟨some d, .binOp .add t x y t2, ty, pos, aft, none⟩ :: rest) ρ w := by
  refine r_val rfl rfl ?_ h
  have h1 : ¬ (((⟨a.toArray⟩ : ByteArray).size + (⟨b.toArray⟩ : ByteArray).size : Nat) : Int) > IntKind.i64.max := by
    show ¬ ((a.toArray.size + b.toArray.size : Nat) : Int) > IntKind.i64.max
    simp [IntKind.max, IntKind.signed, IntKind.bits]
    omega
  have h2 : (⟨a.toArray⟩ : ByteArray) ++ ⟨b.toArray⟩ = ⟨(a ++ b).toArray⟩ := by
    apply ByteArray.ext
    simp
  simp only [execOp, hx, hy, eqGuard, binOp, Op.stringOp]
  simp only [if_neg h1, h2]
  simp
end rules
end Go.Proofs.YtpmnjjmngogkkaaGreatDoor

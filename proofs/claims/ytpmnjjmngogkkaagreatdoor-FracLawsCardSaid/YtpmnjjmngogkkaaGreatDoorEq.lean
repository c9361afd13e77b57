/- Strings compared; values of a drawn head that are known but for their spelling. It holds for every program. -/
import Derived.Test.YtpmnjjmngogkkaaGreatDoorOps2
import Derived.Test.YtpmnjjmngogkkaaGreatDoorDraw
set_option linter.unusedVariables false
set_option linter.unusedSimpArgs false
namespace Go.Proofs.YtpmnjjmngogkkaaGreatDoor
open Go Go.RowKit
theorem r_eqlS {P : Program} {n : Nat} {Q : Post} {ρ : Fr} {w : World} {all rest : List Oper} {d : Tmp} {ty : TypeId} {pos : String} {aft : Array Edge} {t t2 : TypeId} {x y : Operand} {a b : List UInt8} (hx : ev ρ x = strV a) (hy : ev ρ y = strV b)
    (h : WpR P n all Q rest (upd ρ d (.bool (tst (a = b)))) w) : WpR P n all Q (⟨some d, .binOp .eql t x y t2, ty, pos, aft, none⟩ :: rest) ρ w := by
  refine r_val rfl rfl ?_ h
  have e : ((⟨a.toArray⟩ : ByteArray).toList == (⟨b.toArray⟩ : ByteArray).toList) = tst (a = b) := by
    rw [ByteArray.toList_eq, ByteArray.toList_eq, ← decide_tst]
    show (a.toArray.toList == b.toArray.toList) = _
    by_cases h : a = b <;> simp [h]
  simp only [execOp, hx, hy, eqGuard, binOp, Op.stringOp, e]
  rfl
theorem r_neqS {P : Program} {n : Nat} {Q : Post} {ρ : Fr} {w : World} {all rest : List Oper} {d : Tmp} {ty : TypeId} {pos : String} {aft : Array Edge} {t t2 : TypeId} {x y : Operand} {a b : List UInt8} (hx : ev ρ x = strV a) (hy : ev ρ y = strV b)
    (h : WpR P n all Q rest (upd ρ d (.bool (tst (a ≠ b)))) w) : WpR P n all Q (⟨some d, .binOp .neq t x y t2, ty, pos, aft, none⟩ :: rest) ρ w := by
  refine r_val rfl rfl ?_ h
  have e : (!((⟨a.toArray⟩ : ByteArray).toList == (⟨b.toArray⟩ : ByteArray).toList)) = tst (a ≠ b) := by
    rw [ByteArray.toList_eq, ByteArray.toList_eq, ← decide_tst]
    show (!(a.toArray.toList == b.toArray.toList)) = _
    by_cases h : a = b <;> simp [h]
  simp only [execOp, hx, hy, eqGuard, binOp, Op.stringOp, e]
  rfl
theorem ob_eq_to {F : Fr} {d : Nat} {v : Value} {w w' : World} (hx : Ext w w') : obQ w (some d) (Ent.eq v) .normal (upd F d v) w' := ⟨rfl, hx, d, rfl, upd_same _ _ _, fun h => by cases h⟩
theorem ob_eqv {F : Fr} {d : Nat} {v Y : Value} {w w' : World} (h : v = Y) (hx : Ext w w') : obQ w (some d) (Ent.eq Y) .normal (upd F d v) w' := h ▸ ob_eq_to hx
end Go.Proofs.YtpmnjjmngogkkaaGreatDoor

/- Digits in memory. -/
import Derived.Test.YtpmnjjmngogkkaaGreatDoorTypes
import Derived.Test.YtpmnjjmngogkkaaGreatDoorOwn
import Derived.Test.YtpmnjjmngogkkaaGreatDoorDraw
import Derived.Test.YtpmnjjmngogkkaaGreatDoorNum
set_option linter.unusedVariables false
namespace Go.Proofs.YtpmnjjmngogkkaaGreatDoor
open Go Go.RowKit

/-- v is a slice of the numbers l, of kind k. -/
abbrev Sl (S : Nat → Prop) (T : TypeId) (k : IntKind) (w : World) (v : Value) (l : List Nat) : Prop := Row S T 1 w v l.length (l.map fun d : Nat => Value.int k d)
/-- v is the digits of n. -/
abbrev NatV (S : Nat → Prop) (T : TypeId) (k : IntKind) (w : World) (v : Value) (n : Nat) : Prop := Sl S T k w v (dg n)

theorem ones_map {k : IntKind} {l : List Nat} : ∀ u ∈ l.map (fun d : Nat => Value.int k d), u.oneCell' = true := fun u hu => by
  obtain ⟨d, _, rfl⟩ := List.mem_map.1 hu
  rfl
section
variable {P : Program} {n : Nat} {Q : Post} {ρ : Fr} {w : World} {all rest : List Oper} {d : Tmp} {ty : TypeId} {pos : String} {aft : Array Edge}
/-- An index into a slice of one-celled elements. -/
theorem r_index1 {t T : TypeId} [st : SlT P t T] {b : Nat} {z : Value} {agg : Bool} [ti : TyI P T 1 b z agg] {x ix : Operand} {S : Nat → Prop} {w0 : World} {v : Value} {m : Nat} {cs : List Value} {I : Int} {k : IntKind} {i : Nat}
    (hv : ev ρ x = v) (hi : ev ρ ix = .int k I) (hI : I = (i : Int)) (hr : Row S T 1 w0 v m cs) (h1 : i < m)
    (h : WpR P n all Q rest (upd ρ d (.pointer (some (adr v i)))) w) : WpR P n all Q (⟨some d, .indexAddr t x ix, ty, pos, aft, none⟩ :: rest) ρ w := by
  subst hI
  exact r_index hv hi hr (by omega) (by omega) (by simpa using h)
theorem r_load_dig {T : TypeId} {b : Nat} {z : Value} [ti : TyI P T 1 b z false] {x : Operand} {S : Nat → Prop} {v : Value} {i : Nat} {l : List Nat} {k : IntKind}
    (hx : ev ρ x = .pointer (some (adr v i))) (hr : Sl S T k w v l) (hi : i < l.length) (h : WpR P n all Q rest (upd ρ d (.int k (l.getD i 0 : Nat))) w) :
    WpR P n all Q (⟨some d, .load T x, ty, pos, aft, none⟩ :: rest) ρ w := by
  refine r_load_row hx hr (u := .int k (l.getD i 0 : Nat)) ?_ h
  simp [List.getD_eq_getElem?_getD, List.getElem?_eq_getElem hi]
/-- An index into a slice that starts at a block's head. -/
theorem r_index_own {t T : TypeId} [st : SlT P t T] {b : Nat} {z : Value} {agg : Bool} [ti : TyI P T 1 b z agg] {x ix : Operand} {g m cap : Nat} {I : Int} {k : IntKind} {i : Nat}
    (hv : ev ρ x = .slice (some ⟨g, 0, none⟩) m cap) (hi : ev ρ ix = .int k I) (hI : I = (i : Int)) (h1 : i < m)
    (h : WpR P n all Q rest (upd ρ d (.pointer (some ⟨g, i, none⟩))) w) : WpR P n all Q (⟨some d, .indexAddr t x ix, ty, pos, aft, none⟩ :: rest) ρ w := by
  subst hI
  exact r_index_sl hv hi (by omega) (by omega) (by simpa using h)
theorem r_load_digs {T : TypeId} {b : Nat} {z : Value} [ti : TyI P T 1 b z false] {x : Operand} {g i : Nat} {T' : TypeId} {l : List Nat} {k : IntKind}
    (hx : ev ρ x = .pointer (some ⟨g, i, none⟩)) (hb : Blk w g T' (l.map fun d : Nat => .int k d)) (hi : i < l.length) (h : WpR P n all Q rest (upd ρ d (.int k (l.getD i 0 : Nat))) w) :
    WpR P n all Q (⟨some d, .load T x, ty, pos, aft, none⟩ :: rest) ρ w :=
  r_load_blk hx hb (by simp [List.getD_eq_getElem?_getD, List.getElem?_eq_getElem hi]) h
theorem r_store_digs {t : TypeId} {b : Nat} {z : Value} {agg : Bool} [ti : TyI P t 1 b z agg] {x y : Operand} {g i : Nat} {T : TypeId} {l : List Nat} {k : IntKind} {I : Int} {c : Nat}
    (hx : ev ρ x = .pointer (some ⟨g, i, none⟩)) (hy : ev ρ y = .int k I) (hI : I = (c : Int)) (hb : Blk w g T (l.map fun d : Nat => .int k d)) (hi : i < l.length)
    (h : ∀ w', Wrt g w w' → Blk w' g T ((l.set i c).map fun d : Nat => .int k d) → WpR P n all Q rest ρ w') : WpR P n all Q (⟨none, .store t x y, ty, pos, aft, none⟩ :: rest) ρ w := by
  subst hI
  refine r_store hx hy hb (by simpa using hi) rfl fun w' h1 h2 => h w' h1 ?_
  rw [List.map_set]
  exact h2
end
end Go.Proofs.YtpmnjjmngogkkaaGreatDoor

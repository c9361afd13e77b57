/- One rule for each form of operation. It holds for every program. -/
import Derived.Test.YtpmnjjmngogkkaaGreatDoorData
set_option linter.unusedVariables false
set_option linter.unusedSimpArgs false
namespace Go.Proofs.YtpmnjjmngogkkaaGreatDoor
open Go Go.RowKit

def aggOf : Option TypeDesc → Option Bool
  | some (.struct _) => some true
  | some (.array _ _) => some true
  | some _ => some false
  | none => none
class TyI (P : Program) (T : TypeId) (s b : outParam Nat) (z : outParam Value) (agg : outParam Bool) : Prop where
  info : (P.info? T).map (fun i => (i.size, i.bytes, i.zero)) = some (s, b, some z)
  zsize : z.cells.size = s
  aggp : aggOf (P.underlying T) = some agg
class SlT (P : Program) (t : TypeId) (T : outParam TypeId) : Prop where
  und : P.underlying t = some (.slice T)
class FldT (P : Program) (T : TypeId) (f : Nat) (off : outParam Nat) : Prop where
  fld : ∃ fs fd i, P.underlying T = some (.struct fs) ∧ fs[f]? = some fd ∧ fd.offset = off ∧ P.info? fd.type = some i ∧ i.size ≠ 0

theorem TyI.ex {P : Program} {T : TypeId} {s b : Nat} {z : Value} {agg : Bool} (h : TyI P T s b z agg) : ∃ i, P.info? T = some i ∧ i.size = s ∧ i.bytes = b ∧ i.zero = some z := by
  have h1 := h.info
  cases hi : P.info? T with
  | none => rw [hi] at h1; cases h1
  | some i => rw [hi] at h1; simp at h1; exact ⟨i, rfl, h1⟩
theorem TyI.runAgg {P : Program} {T : TypeId} {s b : Nat} {z : Value} {agg : Bool} (h : TyI P T s b z agg) (w : World) : (isAgg T).run P w = .ok agg w := by
  have h1 := h.aggp
  cases hu : P.underlying T with
  | none => rw [hu] at h1; cases h1
  | some d =>
    rw [hu] at h1
    cases d <;> simp [aggOf] at h1 <;> subst h1 <;> simp [isAgg, run_underlying hu]
class IntT (P : Program) (t : TypeId) (k : outParam IntKind) : Prop where
  und : P.underlying t = some (.int k)
class StrT (P : Program) (t : TypeId) : Prop where
  und : P.underlying t = some .string
class BoolT (P : Program) (t : TypeId) : Prop where
  und : P.underlying t = some .bool
class CallI (P : Program) (f : FuncId) : Prop where
  run : ∀ args w, (callFunc f args).run P w = .ok (.enter f args) w
theorem TyI.runSize {P : Program} {T : TypeId} {s b : Nat} {z : Value} {agg : Bool} (h : TyI P T s b z agg) (w : World) : (sizeOf T).run P w = .ok s w := by
  obtain ⟨i, hi, h1, _⟩ := h.ex
  simp [sizeOf, typeInfo, hi, h1]
theorem TyI.runZero {P : Program} {T : TypeId} {s b : Nat} {z : Value} {agg : Bool} (h : TyI P T s b z agg) (w : World) : (zeroValue T).run P w = .ok z w := by
  obtain ⟨i, hi, _, _, h1⟩ := h.ex
  simp [zeroValue, typeInfo, hi, h1]

def oneCells (cs : List Value) : Prop := ∀ u ∈ cs, u.oneCell' = true

theorem load_one {P : Program} {T : TypeId} {s b : Nat} {z : Value} (h : TyI P T s b z false) {w : World} {p : Addr} {u : Value} (hc : w.cell? p = some u) : (loadVar T p).run P w = .ok u w := by
  simp [loadVar, h.runAgg w, load, Sem.run, hc]
theorem loadCells_run {P : Program} {w : World} {b : Nat} : ∀ (cs : List Value) (o k : Nat) (acc : Array Value), (∀ i, i < cs.length → w.cell? ⟨b, o + k + i, none⟩ = cs[i]?) → 
    (loadCellsFrom ⟨b, o, none⟩ k cs.length acc).run P w = .ok (acc ++ cs.toArray) w := by
  intro cs
  induction cs with
  | nil => intro o k acc _; simp [loadCellsFrom]
  | cons c cs ih =>
    intro o k acc h
    have h0 := h 0 (by simp)
    have ha : (⟨b, o, none⟩ : Addr).add k = ⟨b, o + k, none⟩ := by
      unfold Addr.add
      split <;> simp_all
    have h1 := ih o (k + 1) (acc.push c) (fun i hi => by
      have := h (i + 1) (by simp; omega)
      rw [← Nat.add_assoc, show o + k + 1 + i = o + k + (i + 1) from by omega]
      simpa using this)
    simp only [List.length_cons, loadCellsFrom]
    simp only [Nat.add_zero, List.getElem?_cons_zero] at h0
    simp [ha, load, Sem.run, h0, h1]
theorem load_agg {P : Program} {T : TypeId} {s b : Nat} {z : Value} (h : TyI P T s b z true) {w : World} {g o : Nat} {us : List Value} (hl : us.length = s)
    (hc : ∀ i, i < us.length → w.cell? ⟨g, o + i, none⟩ = us[i]?) : (loadVar T ⟨g, o, none⟩).run P w = .ok (.agg us.toArray) w := by
  have h1 := loadCells_run (P := P) us o 0 #[] (by simpa using hc)
  subst hl
  simp [loadVar, h.runAgg w, h.runSize w, loadCells, h1]

theorem wrap_i64 {x : Int} (h0 : -9223372036854775808 ≤ x) (h1 : x ≤ 9223372036854775807) : IntKind.i64.wrap x = x := by rw [IntKind.wrap_i64]; omega
theorem wrap_u64 {x : Int} (h0 : 0 ≤ x) (h1 : x ≤ 18446744073709551615) : IntKind.u64.wrap x = x := by simp [IntKind.wrap, IntKind.signed, IntKind.bits]; omega
theorem wrap_u32 {x : Int} (h0 : 0 ≤ x) (h1 : x ≤ 4294967295) : IntKind.u32.wrap x = x := by simp [IntKind.wrap, IntKind.signed, IntKind.bits]; omega
theorem wrap_u8 {x : Int} (h0 : 0 ≤ x) (h1 : x ≤ 255) : IntKind.u8.wrap x = x := by simp [IntKind.wrap, IntKind.signed, IntKind.bits]; omega

section rules
variable {P : Program} {n : Nat} {Q : Post} {ρ : Fr} {w : World} {all rest : List Oper} {d : Tmp} {ty : TypeId} {pos : String} {aft : Array Edge}

theorem r_val {o : Oper} {d : Tmp} {v : Value} (hd : o.dst = some d) (hg : o.guard = none) (hr : (execOp (ev ρ) o).run P w = .ok (.value v) w) (h : WpR P n all Q rest (upd ρ d v) w) :
    WpR P n all Q (o :: rest) ρ w := by
  refine r_step hg ?_
  unfold Stp
  rw [hr]
  simp only [hd, updO]
  exact h
theorem r_valw {o : Oper} {d : Tmp} {v : Value} {w' : World} (hd : o.dst = some d) (hg : o.guard = none) (hr : (execOp (ev ρ) o).run P w = .ok (.value v) w') (h : WpR P n all Q rest (upd ρ d v) w') :
    WpR P n all Q (o :: rest) ρ w := by
  refine r_step hg ?_
  unfold Stp
  rw [hr]
  simp only [hd, updO]
  exact h
theorem r_skipw {o : Oper} {w' : World} (hd : o.dst = none) (hg : o.guard = none) (hr : (execOp (ev ρ) o).run P w = .ok .skip w') (h : WpR P n all Q rest ρ w') :
    WpR P n all Q (o :: rest) ρ w := by
  refine r_step hg ?_
  unfold Stp
  rw [hr]
  simp only [hd, updO]
  exact h

theorem r_move {x : Operand} {v : Value} (hv : ev ρ x = v) (h : WpR P n all Q rest (upd ρ d v) w) : WpR P n all Q (⟨some d, .move x, ty, pos, aft, none⟩ :: rest) ρ w :=
  r_val rfl rfl (by subst hv; rfl) h
theorem r_assign {x : Operand} {v : Value} (hv : ev ρ x = v) (h : WpR P n all Q rest (upd ρ d v) w) : WpR P n all Q (⟨some d, .assign x, ty, pos, aft, none⟩ :: rest) ρ w :=
  r_val rfl rfl (by subst hv; rfl) h
theorem r_pick_true {c x y : Operand} {v : Value} (hc : ev ρ c = .bool true) (hv : ev ρ x = v) (h : WpR P n all Q rest (upd ρ d v) w) : WpR P n all Q (⟨some d, .pick c x y, ty, pos, aft, none⟩ :: rest) ρ w :=
  r_val rfl rfl (by subst hv; simp [execOp, hc, asBool]) h
theorem r_pick_false {c x y : Operand} {v : Value} (hc : ev ρ c = .bool false) (hv : ev ρ y = v) (h : WpR P n all Q rest (upd ρ d v) w) : WpR P n all Q (⟨some d, .pick c x y, ty, pos, aft, none⟩ :: rest) ρ w :=
  r_val rfl rfl (by subst hv; simp [execOp, hc, asBool]) h

theorem r_len {t T : TypeId} [st : SlT P t T] {x : Operand} {S : Nat → Prop} {s : Nat} {w0 : World} {v : Value} {m : Nat} {cs : List Value} (hv : ev ρ x = v) (hr : Row S T s w0 v m cs) 
    (h : WpR P n all Q rest (upd ρ d (.int .i64 m)) w) : WpR P n all Q (⟨some d, .call ⟨.builtin .len, #[x], #[t]⟩, ty, pos, aft, none⟩ :: rest) ρ w := by
  obtain ⟨a, cap, hs, _⟩ := hr.slice
  refine r_val rfl rfl ?_ h
  subst hs
  simp [execOp, resolve, invoke, builtin, hv, Builtin.len_, run_underlying st.und, goInt]
theorem r_len_sl {t T : TypeId} [st : SlT P t T] {x : Operand} {a : Option Addr} {m cap : Nat} (hv : ev ρ x = .slice a m cap)
    (h : WpR P n all Q rest (upd ρ d (.int .i64 m)) w) : WpR P n all Q (⟨some d, .call ⟨.builtin .len, #[x], #[t]⟩, ty, pos, aft, none⟩ :: rest) ρ w := by
  refine r_val rfl rfl ?_ h
  simp [execOp, resolve, invoke, builtin, hv, Builtin.len_, run_underlying st.und, goInt]
theorem r_len_str {t : TypeId} [st : StrT P t] {x : Operand} {s : ByteArray} (hv : ev ρ x = .string s)
    (h : WpR P n all Q rest (upd ρ d (.int .i64 s.size)) w) : WpR P n all Q (⟨some d, .call ⟨.builtin .len, #[x], #[t]⟩, ty, pos, aft, none⟩ :: rest) ρ w := by
  refine r_val rfl rfl ?_ h
  simp [execOp, resolve, invoke, builtin, hv, Builtin.len_, run_underlying st.und, goInt]

theorem r_arith {op : BinOp} {x y : Operand} {xt yt : TypeId} {k : IntKind} {a b c : Int} (hx : ev ρ x = .int k a) (hy : ev ρ y = .int k b)
    (ho : (op = .add ∧ k.wrap (a + b) = c) ∨ (op = .sub ∧ k.wrap (a - b) = c) ∨ (op = .mul ∧ k.wrap (a * b) = c))
    (h : WpR P n all Q rest (upd ρ d (.int k c)) w) : WpR P n all Q (⟨some d, .binOp op xt x y yt, ty, pos, aft, none⟩ :: rest) ρ w := by
  refine r_val rfl rfl ?_ h
  rcases ho with ⟨rfl, rfl⟩ | ⟨rfl, rfl⟩ | ⟨rfl, rfl⟩ <;> simp [execOp, hx, hy, eqGuard, binOp, Op.intArith]
theorem r_addI {x y : Operand} {xt yt : TypeId} {a b : Int} (hx : ev ρ x = .int .i64 a) (hy : ev ρ y = .int .i64 b) (h0 : -9223372036854775808 ≤ a + b) (h1 : a + b ≤ 9223372036854775807)
    (h : WpR P n all Q rest (upd ρ d (.int .i64 (a + b))) w) : WpR P n all Q (⟨some d, .binOp .add xt x y yt, ty, pos, aft, none⟩ :: rest) ρ w :=
  r_arith hx hy (.inl ⟨rfl, wrap_i64 h0 h1⟩) h
theorem r_subI {x y : Operand} {xt yt : TypeId} {a b : Int} (hx : ev ρ x = .int .i64 a) (hy : ev ρ y = .int .i64 b) (h0 : -9223372036854775808 ≤ a - b) (h1 : a - b ≤ 9223372036854775807)
    (h : WpR P n all Q rest (upd ρ d (.int .i64 (a - b))) w) : WpR P n all Q (⟨some d, .binOp .sub xt x y yt, ty, pos, aft, none⟩ :: rest) ρ w :=
  r_arith hx hy (.inr (.inl ⟨rfl, wrap_i64 h0 h1⟩)) h
theorem r_mulI {x y : Operand} {xt yt : TypeId} {a b : Int} (hx : ev ρ x = .int .i64 a) (hy : ev ρ y = .int .i64 b) (h0 : -9223372036854775808 ≤ a * b) (h1 : a * b ≤ 9223372036854775807)
    (h : WpR P n all Q rest (upd ρ d (.int .i64 (a * b))) w) : WpR P n all Q (⟨some d, .binOp .mul xt x y yt, ty, pos, aft, none⟩ :: rest) ρ w :=
  r_arith hx hy (.inr (.inr ⟨rfl, wrap_i64 h0 h1⟩)) h
theorem r_addU {x y : Operand} {xt yt : TypeId} {a b : Int} (hx : ev ρ x = .int .u64 a) (hy : ev ρ y = .int .u64 b) (h0 : 0 ≤ a + b) (h1 : a + b ≤ 18446744073709551615)
    (h : WpR P n all Q rest (upd ρ d (.int .u64 (a + b))) w) : WpR P n all Q (⟨some d, .binOp .add xt x y yt, ty, pos, aft, none⟩ :: rest) ρ w :=
  r_arith hx hy (.inl ⟨rfl, wrap_u64 h0 h1⟩) h
theorem r_subU {x y : Operand} {xt yt : TypeId} {a b : Int} (hx : ev ρ x = .int .u64 a) (hy : ev ρ y = .int .u64 b) (h0 : 0 ≤ a - b) (h1 : a - b ≤ 18446744073709551615)
    (h : WpR P n all Q rest (upd ρ d (.int .u64 (a - b))) w) : WpR P n all Q (⟨some d, .binOp .sub xt x y yt, ty, pos, aft, none⟩ :: rest) ρ w :=
  r_arith hx hy (.inr (.inl ⟨rfl, wrap_u64 h0 h1⟩)) h
theorem r_mulU {x y : Operand} {xt yt : TypeId} {a b : Int} (hx : ev ρ x = .int .u64 a) (hy : ev ρ y = .int .u64 b) (h0 : 0 ≤ a * b) (h1 : a * b ≤ 18446744073709551615)
    (h : WpR P n all Q rest (upd ρ d (.int .u64 (a * b))) w) : WpR P n all Q (⟨some d, .binOp .mul xt x y yt, ty, pos, aft, none⟩ :: rest) ρ w :=
  r_arith hx hy (.inr (.inr ⟨rfl, wrap_u64 h0 h1⟩)) h
theorem r_addW {x y : Operand} {xt yt : TypeId} {a b : Int} (hx : ev ρ x = .int .u32 a) (hy : ev ρ y = .int .u32 b) (h0 : 0 ≤ a + b) (h1 : a + b ≤ 4294967295)
    (h : WpR P n all Q rest (upd ρ d (.int .u32 (a + b))) w) : WpR P n all Q (⟨some d, .binOp .add xt x y yt, ty, pos, aft, none⟩ :: rest) ρ w :=
  r_arith hx hy (.inl ⟨rfl, wrap_u32 h0 h1⟩) h
theorem r_subW {x y : Operand} {xt yt : TypeId} {a b : Int} (hx : ev ρ x = .int .u32 a) (hy : ev ρ y = .int .u32 b) (h0 : 0 ≤ a - b) (h1 : a - b ≤ 4294967295)
    (h : WpR P n all Q rest (upd ρ d (.int .u32 (a - b))) w) : WpR P n all Q (⟨some d, .binOp .sub xt x y yt, ty, pos, aft, none⟩ :: rest) ρ w :=
  r_arith hx hy (.inr (.inl ⟨rfl, wrap_u32 h0 h1⟩)) h
theorem r_addB {x y : Operand} {xt yt : TypeId} {a b : Int} (hx : ev ρ x = .int .u8 a) (hy : ev ρ y = .int .u8 b) (h0 : 0 ≤ a + b) (h1 : a + b ≤ 255)
    (h : WpR P n all Q rest (upd ρ d (.int .u8 (a + b))) w) : WpR P n all Q (⟨some d, .binOp .add xt x y yt, ty, pos, aft, none⟩ :: rest) ρ w :=
  r_arith hx hy (.inl ⟨rfl, wrap_u8 h0 h1⟩) h
theorem r_subB {x y : Operand} {xt yt : TypeId} {a b : Int} (hx : ev ρ x = .int .u8 a) (hy : ev ρ y = .int .u8 b) (h0 : 0 ≤ a - b) (h1 : a - b ≤ 255)
    (h : WpR P n all Q rest (upd ρ d (.int .u8 (a - b))) w) : WpR P n all Q (⟨some d, .binOp .sub xt x y yt, ty, pos, aft, none⟩ :: rest) ρ w :=
  r_arith hx hy (.inr (.inl ⟨rfl, wrap_u8 h0 h1⟩)) h

theorem r_quo {x y : Operand} {xt yt : TypeId} {k : IntKind} {a b c : Int} (hx : ev ρ x = .int k a) (hy : ev ρ y = .int k b) (hb : b ≠ 0) (hc : k.wrap (a.tdiv b) = c)
    (h : WpR P n all Q rest (upd ρ d (.int k c)) w) : WpR P n all Q (⟨some d, .binOp .quo xt x y yt, ty, pos, aft, none⟩ :: rest) ρ w := by
  refine r_val rfl rfl ?_ h
  simp [execOp, hx, hy, eqGuard, binOp, Op.intDiv, hb, hc]
theorem r_rem {x y : Operand} {xt yt : TypeId} {k : IntKind} {a b : Int} (hx : ev ρ x = .int k a) (hy : ev ρ y = .int k b) (hb : b ≠ 0)
    (h : WpR P n all Q rest (upd ρ d (.int k (a.tmod b))) w) : WpR P n all Q (⟨some d, .binOp .rem xt x y yt, ty, pos, aft, none⟩ :: rest) ρ w := by
  refine r_val rfl rfl ?_ h
  simp [execOp, hx, hy, eqGuard, binOp, Op.intDiv, hb]
theorem tdiv_pos {a b : Int} (ha : 0 ≤ a) : a.tdiv b = a / b := Int.tdiv_eq_ediv_of_nonneg ha
theorem tmod_pos {a b : Int} (ha : 0 ≤ a) : a.tmod b = a % b := Int.tmod_eq_emod_of_nonneg ha
theorem ediv_bd {a b : Int} (ha : 0 ≤ a) (hb : 0 < b) : 0 ≤ a / b ∧ a / b ≤ a := ⟨Int.ediv_nonneg ha (Int.le_of_lt hb), Int.ediv_le_self _ ha⟩
theorem r_quoI {x y : Operand} {xt yt : TypeId} {a b : Int} (hx : ev ρ x = .int .i64 a) (hy : ev ρ y = .int .i64 b) (ha : 0 ≤ a) (hb : 0 < b) (h1 : a ≤ 9223372036854775807)
    (h : WpR P n all Q rest (upd ρ d (.int .i64 (a / b))) w) : WpR P n all Q (⟨some d, .binOp .quo xt x y yt, ty, pos, aft, none⟩ :: rest) ρ w :=
  r_quo hx hy (by omega) (by have := ediv_bd ha hb; rw [tdiv_pos ha]; exact wrap_i64 (by omega) (by omega)) h
theorem r_quoU {x y : Operand} {xt yt : TypeId} {a b : Int} (hx : ev ρ x = .int .u64 a) (hy : ev ρ y = .int .u64 b) (ha : 0 ≤ a) (hb : 0 < b) (h1 : a ≤ 18446744073709551615)
    (h : WpR P n all Q rest (upd ρ d (.int .u64 (a / b))) w) : WpR P n all Q (⟨some d, .binOp .quo xt x y yt, ty, pos, aft, none⟩ :: rest) ρ w :=
  r_quo hx hy (by omega) (by have := ediv_bd ha hb; rw [tdiv_pos ha]; exact wrap_u64 (by omega) (by omega)) h
theorem r_remP {x y : Operand} {xt yt : TypeId} {k : IntKind} {a b : Int} (hx : ev ρ x = .int k a) (hy : ev ρ y = .int k b) (ha : 0 ≤ a) (hb : 0 < b)
    (h : WpR P n all Q rest (upd ρ d (.int k (a % b))) w) : WpR P n all Q (⟨some d, .binOp .rem xt x y yt, ty, pos, aft, none⟩ :: rest) ρ w :=
  r_rem hx hy (by omega) (by rwa [tmod_pos ha])

theorem r_cmp {op : BinOp} {x y : Operand} {xt yt : TypeId} {k : IntKind} {a b : Int} {p : Prop} (hx : ev ρ x = .int k a) (hy : ev ρ y = .int k b)
    (ho : (op = .eql ∧ p = (a = b)) ∨ (op = .neq ∧ p = (a ≠ b)) ∨ (op = .lss ∧ p = (a < b)) ∨ (op = .leq ∧ p = (a ≤ b)) ∨ (op = .gtr ∧ p = (b < a)) ∨ (op = .geq ∧ p = (b ≤ a)))
    (h : WpR P n all Q rest (upd ρ d (.bool (tst p))) w) : WpR P n all Q (⟨some d, .binOp op xt x y yt, ty, pos, aft, none⟩ :: rest) ρ w := by
  refine r_val rfl rfl ?_ h
  have e1 : (a == b) = tst (a = b) := by rw [← decide_tst, Bool.eq_iff_iff]; simp
  have e2 : (a != b) = tst (a ≠ b) := by rw [← decide_tst, Bool.eq_iff_iff]; simp
  rcases ho with ⟨rfl, h⟩ | ⟨rfl, h⟩ | ⟨rfl, h⟩ | ⟨rfl, h⟩ | ⟨rfl, h⟩ | ⟨rfl, h⟩ <;> subst h <;> simp [execOp, hx, hy, eqGuard, binOp, Op.intCmp, e1, e2, decide_tst]
section
variable {x y : Operand} {xt yt : TypeId} {k : IntKind} {a b : Int} (hx : ev ρ x = .int k a) (hy : ev ρ y = .int k b)
include hx hy
theorem r_eql (h : WpR P n all Q rest (upd ρ d (.bool (tst (a = b)))) w) : WpR P n all Q (⟨some d, .binOp .eql xt x y yt, ty, pos, aft, none⟩ :: rest) ρ w := r_cmp hx hy (.inl ⟨rfl, rfl⟩) h
theorem r_neq (h : WpR P n all Q rest (upd ρ d (.bool (tst (a ≠ b)))) w) : WpR P n all Q (⟨some d, .binOp .neq xt x y yt, ty, pos, aft, none⟩ :: rest) ρ w := r_cmp hx hy (.inr (.inl ⟨rfl, rfl⟩)) h
theorem r_lss (h : WpR P n all Q rest (upd ρ d (.bool (tst (a < b)))) w) : WpR P n all Q (⟨some d, .binOp .lss xt x y yt, ty, pos, aft, none⟩ :: rest) ρ w := r_cmp hx hy (.inr (.inr (.inl ⟨rfl, rfl⟩))) h
theorem r_leq (h : WpR P n all Q rest (upd ρ d (.bool (tst (a ≤ b)))) w) : WpR P n all Q (⟨some d, .binOp .leq xt x y yt, ty, pos, aft, none⟩ :: rest) ρ w := r_cmp hx hy (.inr (.inr (.inr (.inl ⟨rfl, rfl⟩)))) h
theorem r_gtr (h : WpR P n all Q rest (upd ρ d (.bool (tst (b < a)))) w) : WpR P n all Q (⟨some d, .binOp .gtr xt x y yt, ty, pos, aft, none⟩ :: rest) ρ w := r_cmp hx hy (.inr (.inr (.inr (.inr (.inl ⟨rfl, rfl⟩))))) h
theorem r_geq (h : WpR P n all Q rest (upd ρ d (.bool (tst (b ≤ a)))) w) : WpR P n all Q (⟨some d, .binOp .geq xt x y yt, ty, pos, aft, none⟩ :: rest) ρ w := r_cmp hx hy (.inr (.inr (.inr (.inr (.inr ⟨rfl, rfl⟩))))) h
end

/-- A conversion between kinds of integers. -/
theorem r_conv {src dst : TypeId} {x : Operand} {k0 k k' : IntKind} [ss : IntT P src k0] [sd : IntT P dst k'] {a c : Int} (hx : ev ρ x = .int k a) (hc : k'.wrap a = c)
    (h : WpR P n all Q rest (upd ρ d (.int k' c)) w) : WpR P n all Q (⟨some d, .convert src dst x, ty, pos, aft, none⟩ :: rest) ρ w := by
  refine r_val rfl rfl ?_ h
  simp [execOp, hx, convert, run_underlying ss.und, run_underlying sd.und, Conv.intToInt, hc]

/-- The address of an element. -/
theorem r_index {t T : TypeId} [st : SlT P t T] {s b : Nat} {z : Value} {agg : Bool} [ti : TyI P T s b z agg] {x ix : Operand} {S : Nat → Prop} {w0 : World} {v : Value} {m : Nat} {cs : List Value} {i : Int} {k : IntKind}
    (hv : ev ρ x = v) (hi : ev ρ ix = .int k i) (hr : Row S T s w0 v m cs) (h0 : 0 ≤ i) (h1 : i < m)
    (h : WpR P n all Q rest (upd ρ d (.pointer (some (adr v (i.toNat * s))))) w) : WpR P n all Q (⟨some d, .indexAddr t x ix, ty, pos, aft, none⟩ :: rest) ρ w := by
  rcases hr.2 with ⟨_, h2⟩ | ⟨g, off, cap, arr, fr, hv2, _⟩
  · omega
  · refine r_val rfl rfl ?_ h
    subst hv2
    have ha : (⟨g, off, none⟩ : Addr).add (i.toNat * s) = ⟨g, off + i.toNat * s, none⟩ := by
      unfold Addr.add
      split <;> simp_all
    simp [execOp, hv, hi, Instr.indexAt, asIntOf, run_underlying st.und, h0, h1, ti.runSize w, adr, ha]
theorem r_index_sl {t T : TypeId} [st : SlT P t T] {s b : Nat} {z : Value} {agg : Bool} [ti : TyI P T s b z agg] {x ix : Operand} {g off m cap : Nat} {i : Int} {k : IntKind}
    (hv : ev ρ x = .slice (some ⟨g, off, none⟩) m cap) (hi : ev ρ ix = .int k i) (h0 : 0 ≤ i) (h1 : i < m)
    (h : WpR P n all Q rest (upd ρ d (.pointer (some ⟨g, off + i.toNat * s, none⟩))) w) : WpR P n all Q (⟨some d, .indexAddr t x ix, ty, pos, aft, none⟩ :: rest) ρ w := by
  refine r_val rfl rfl ?_ h
  have ha : (⟨g, off, none⟩ : Addr).add (i.toNat * s) = ⟨g, off + i.toNat * s, none⟩ := by
    unfold Addr.add
    split <;> simp_all
  simp [execOp, hv, hi, Instr.indexAt, asIntOf, run_underlying st.und, h0, h1, ti.runSize w, ha]

/-- A load, by what is known of the place. -/
theorem r_load {t : TypeId} {x : Operand} {p : Addr} {u : Value} (hx : ev ρ x = .pointer (some p)) (hl : (loadVar t p).run P w = .ok u w)
    (h : WpR P n all Q rest (upd ρ d u) w) : WpR P n all Q (⟨some d, .load t x, ty, pos, aft, none⟩ :: rest) ρ w := by
  refine r_val rfl rfl ?_ h
  simp [execOp, hx, Instr.loadAt, Instr.sureAddr, hl]
theorem r_load_row {T : TypeId} {b : Nat} {z : Value} [ti : TyI P T 1 b z false] {x : Operand} {S : Nat → Prop} {v : Value} {m i : Nat} {cs : List Value} {u : Value}
    (hx : ev ρ x = .pointer (some (adr v i))) (hr : Row S T 1 w v m cs) (hu : cs[i]? = some u) (h : WpR P n all Q rest (upd ρ d u) w) :
    WpR P n all Q (⟨some d, .load T x, ty, pos, aft, none⟩ :: rest) ρ w :=
  r_load hx (load_one ti (hr.cell hu)) h
theorem r_load_blk {t : TypeId} {s b : Nat} {z : Value} [ti : TyI P t s b z false] {x : Operand} {g i : Nat} {T : TypeId} {cs : List Value} {u : Value}
    (hx : ev ρ x = .pointer (some ⟨g, i, none⟩)) (hb : Blk w g T cs) (hu : cs[i]? = some u) (h : WpR P n all Q rest (upd ρ d u) w) :
    WpR P n all Q (⟨some d, .load t x, ty, pos, aft, none⟩ :: rest) ρ w :=
  r_load hx (load_one ti (hb.cell hu)) h
/-- A whole block as one value. -/
theorem r_load_all {t : TypeId} {s b : Nat} {z : Value} [ti : TyI P t s b z true] {x : Operand} {g : Nat} {T : TypeId} {cs : List Value}
    (hx : ev ρ x = .pointer (some ⟨g, 0, none⟩)) (hb : Blk w g T cs) (hs : cs.length = s) (h : WpR P n all Q rest (upd ρ d (.agg cs.toArray)) w) :
    WpR P n all Q (⟨some d, .load t x, ty, pos, aft, none⟩ :: rest) ρ w :=
  r_load hx (load_agg ti hs fun i hi => by rw [Nat.zero_add, List.getElem?_eq_getElem hi]; exact hb.cell (List.getElem?_eq_getElem hi)) h

/-- A new variable. -/
theorem r_box {T : TypeId} {x : Operand} {v : Value} {cs : List Value} (hx : ev ρ x = v) (hc : v.cells = cs.toArray)
    (h : ∀ w' b, Ext w w' → Blk w' b T cs → w.heap.size ≤ b → WpR P n all Q rest (upd ρ d (.pointer (some ⟨b, 0, none⟩))) w') :
    WpR P n all Q (⟨some d, .box T x, ty, pos, aft, none⟩ :: rest) ρ w := by
  refine r_valw (w' := w.alloc (.cells cs.toArray T)) rfl rfl ?_ (h _ w.heap.size (ext_alloc _ _) (Blk.new _ _ _) (Nat.le_refl _))
  simp [execOp, hx, Instr.box, newVar, newRow, hc]
theorem cells_one {v : Value} (h : v.oneCell' = true) : v.cells = [v].toArray := by cases v <;> first | rfl | cases h
theorem Row.one {S : Nat → Prop} {T : TypeId} {s : Nat} {w : World} {v : Value} {m : Nat} {cs : List Value} (h : Row S T s w v m cs) : v.oneCell' = true := by
  obtain ⟨a, cap, rfl, _⟩ := h.slice
  rfl
/-- A new variable of one cell. -/
theorem r_box1 {T : TypeId} {x : Operand} {v : Value} (hx : ev ρ x = v) (h1 : v.oneCell' = true)
    (h : ∀ w' b, Ext w w' → Blk w' b T [v] → w.heap.size ≤ b → WpR P n all Q rest (upd ρ d (.pointer (some ⟨b, 0, none⟩))) w') :
    WpR P n all Q (⟨some d, .box T x, ty, pos, aft, none⟩ :: rest) ρ w := r_box hx (cells_one h1) h
theorem r_alloc {T : TypeId} {s b : Nat} {z : Value} {agg : Bool} [ti : TyI P T s b z agg] {cs : List Value} (hc : z.cells = cs.toArray)
    (h : ∀ w' b, Ext w w' → Blk w' b T cs → w.heap.size ≤ b → WpR P n all Q rest (upd ρ d (.pointer (some ⟨b, 0, none⟩))) w') :
    WpR P n all Q (⟨some d, .alloc T, ty, pos, aft, none⟩ :: rest) ρ w := by
  refine r_valw (w' := w.alloc (.cells cs.toArray T)) rfl rfl ?_ (h _ w.heap.size (ext_alloc _ _) (Blk.new _ _ _) (Nat.le_refl _))
  simp [execOp, Instr.alloc, ti.runZero w, newVar, newRow, hc]
theorem r_field {T : TypeId} {f off : Nat} [ft : FldT P T f off] {x : Operand} {g o : Nat} (hx : ev ρ x = .pointer (some ⟨g, o, none⟩))
    (h : WpR P n all Q rest (upd ρ d (.pointer (some ⟨g, o + off, none⟩))) w) : WpR P n all Q (⟨some d, .fieldAddr T x f, ty, pos, aft, none⟩ :: rest) ρ w := by
  obtain ⟨fs, fd, i, h1, h2, h3, h4, h5⟩ := ft.fld
  refine r_val rfl rfl ?_ h
  have ha : (⟨g, o, none⟩ : Addr).add off = ⟨g, o + off, none⟩ := by
    unfold Addr.add
    split <;> simp_all
  simp [execOp, hx, Instr.fieldAt, run_underlying h1, h2, Instr.sureAddr, fieldPlace, sizeOf, typeInfo, h4, h5, h3, ha]

/-- A store of one cell. -/
theorem r_store {t : TypeId} {b : Nat} {z : Value} {agg : Bool} [ti : TyI P t 1 b z agg] {x y : Operand} {g i : Nat} {T : TypeId} {cs : List Value} {u : Value}
    (hx : ev ρ x = .pointer (some ⟨g, i, none⟩)) (hy : ev ρ y = u) (hb : Blk w g T cs) (hi : i < cs.length) (h1 : u.oneCell' = true)
    (h : ∀ w', Wrt g w w' → Blk w' g T (cs.set i u) → WpR P n all Q rest ρ w') : WpR P n all Q (⟨none, .store t x y, ty, pos, aft, none⟩ :: rest) ρ w := by
  refine r_skipw (w' := w.setCell ⟨g, i, none⟩ u) rfl rfl ?_ (h _ (wrt_setCell w ⟨g, i, none⟩ u) (hb.set u))
  have hc : u.cells = #[u] := by cases u <;> first | rfl | cases h1
  have h2 := run_store P w ⟨g, i, none⟩ u .plain h1
  rw [hb.cell (List.getElem?_eq_getElem hi), hb.free] at h2
  simp only [Bool.false_eq_true, if_false] at h2
  have h3 : (⟨g, i, none⟩ : Addr).add 0 = ⟨g, i, none⟩ := rfl
  simp [execOp, hx, hy, Instr.storeAt, Instr.sureAddr, storeVar, ti.runSize w, hc, storeCells, h3, h2]
/-- A store of a whole block. -/
theorem r_store_all {t : TypeId} {s b : Nat} {z : Value} {agg : Bool} [ti : TyI P t s b z agg] {x y : Operand} {g : Nat} {T : TypeId} {cs us : List Value} {u : Value}
    (hx : ev ρ x = .pointer (some ⟨g, 0, none⟩)) (hy : ev ρ y = u) (hc : u.cells = us.toArray) (hl : us.length = s) (hb : Blk w g T cs) (hi : cs.length = s) (h1 : ∀ v ∈ us, v.oneCell' = true)
    (h : ∀ w', Wrt g w w' → Blk w' g T us → WpR P n all Q rest ρ w') : WpR P n all Q (⟨none, .store t x y, ty, pos, aft, none⟩ :: rest) ρ w := by
  have h2 := run_storeCells_at P g 0 T us 0 cs.toArray w hb (by simp; omega) h1
  have h4 : (cs.toArray.toList.take (0 + 0) ++ us ++ cs.toArray.toList.drop (0 + 0 + us.length)).toArray = us.toArray := by
    have : List.drop us.length cs = [] := List.drop_eq_nil_of_le (by omega)
    simp [this]
  rw [h4] at h2
  refine r_skipw (w' := w.setRow g us.toArray) rfl rfl ?_ (h _ ?_ (setRow_heap w g _ us.toArray T (0, 0) hb))
  · subst hl
    simp [execOp, hx, hy, Instr.storeAt, Instr.sureAddr, storeVar, ti.runSize w, hc, h2]
  · exact ⟨rfl, rfl, rfl, by simp [World.setRow], fun k _ hk => setRow_other w g k _ hk⟩
/-- A call of a function. -/
theorem r_call {f : FuncId} [ci : CallI P f] {l : List Operand} {ts : Array TypeId} {args : List Value} {Ψ : Value → World → Prop} (hc : Gives P f args w Ψ) (ha : l.map (ev ρ) = args)
    (h : ∀ v w', Ψ v w' → WpR P n all Q rest (upd ρ d v) w') : WpR P n all Q (⟨some d, .call ⟨.value (.func f), l.toArray, ts⟩, ty, pos, aft, none⟩ :: rest) ρ w := by
  refine r_step rfl ?_
  have hr : (execOp (ev ρ) ⟨some d, .call ⟨.value (.func f), l.toArray, ts⟩, ty, pos, aft, none⟩).run P w = .ok (.enter f args.toArray) w := by
    subst ha
    simp [execOp, resolve, Deferred.ofValue, ev, invoke, ci.run]
  unfold Stp
  rw [hr]
  exact hc.mono h
/-- A call of a function value. -/
theorem r_callv {f : FuncId} [ci : CallI P f] {x : Operand} {first cap : List Value} {l : List Operand} {ts : Array TypeId} {args : List Value} {Ψ : Value → World → Prop}
    (hx : ev ρ x = .func (.func f) first.toArray cap.toArray) (hc : Gives P f args w Ψ) (ha : first ++ l.map (ev ρ) ++ cap = args)
    (h : ∀ v w', Ψ v w' → WpR P n all Q rest (upd ρ d v) w') : WpR P n all Q (⟨some d, .call ⟨.value x, l.toArray, ts⟩, ty, pos, aft, none⟩ :: rest) ρ w := by
  refine r_step rfl ?_
  have hr : (execOp (ev ρ) ⟨some d, .call ⟨.value x, l.toArray, ts⟩, ty, pos, aft, none⟩).run P w = .ok (.enter f args.toArray) w := by
    subst ha
    simp [execOp, resolve, Deferred.ofValue, hx, invoke, ci.run]
  unfold Stp
  rw [hr]
  exact hc.mono h
theorem r_extract {x : Operand} {i : Nat} {l : List Value} {v : Value} (hx : ev ρ x = .tuple l.toArray) (hi : l[i]? = some v) (h : WpR P n all Q rest (upd ρ d v) w) :
    WpR P n all Q (⟨some d, .extract x i, ty, pos, aft, none⟩ :: rest) ρ w :=
  r_val rfl rfl (by simp [execOp, hx, Instr.extract, hi]) h
theorem r_not {t : TypeId} {x : Operand} {b : Bool} (hx : ev ρ x = .bool b) (h : WpR P n all Q rest (upd ρ d (.bool (!b))) w) :
    WpR P n all Q (⟨some d, .unOp .not t x, ty, pos, aft, none⟩ :: rest) ρ w :=
  r_val rfl rfl (by simp [execOp, hx, Op.unary]) h
theorem r_func {fn : Fn} {first cap : List Operand} (h : WpR P n all Q rest (upd ρ d (.func fn (first.map (ev ρ)).toArray (cap.map (ev ρ)).toArray)) w) :
    WpR P n all Q (⟨some d, .makeFunc fn first.toArray cap.toArray, ty, pos, aft, none⟩ :: rest) ρ w :=
  r_val rfl rfl (by simp [execOp, Instr.makeFunc]) h
/-- s[:h:m] of a row, where h and m are one. -/
theorem r_slice3 {t T : TypeId} [st : SlT P t T] {s b : Nat} {z : Value} {agg : Bool} [ti : TyI P T s b z agg] {x hi mx : Operand} {S : Nat → Prop} {w0 : World} {v : Value} {m : Nat} {cs : List Value} {k : Nat} {i : Int}
    (hv : ev ρ x = v) (hr : Row S T s w0 v m cs) (hh : ev ρ hi = .int .i64 i) (hm : ev ρ mx = .int .i64 i) (hik : i = (k : Int)) (hk : k ≤ m)
    (h : ∀ v', Row S T s w0 v' k (cs.take (k * s)) → WpR P n all Q rest (upd ρ d v') w) : WpR P n all Q (⟨some d, .slice t x none (some hi) (some mx), ty, pos, aft, none⟩ :: rest) ρ w := by
  obtain ⟨a, cap, hs, hc, hr'⟩ := hr.cut3 k hk
  have h2 : k ≤ cap := by omega
  refine r_val (v := .slice a k k) rfl rfl ?_ (h _ hr')
  subst hs hik
  simp [execOp, hv, hh, hm, Instr.sliceAt, Instr.slice, run_underlying st.und, Instr.sliceBounds, Instr.sliceBound, asIntOf, h2, ti.runSize w, Addr.add]
end rules
theorem args1 {a b : Value} (h : a = b) : [a] = [b] := by rw [h]
theorem args2 {a b c d : Value} (h : a = b) (k : c = d) : [a, c] = [b, d] := by rw [h, k]
theorem args3 {a b c d e f : Value} (h : a = b) (k : c = d) (l : e = f) : [a, c, e] = [b, d, f] := by rw [h, k, l]
end Go.Proofs.YtpmnjjmngogkkaaGreatDoor
